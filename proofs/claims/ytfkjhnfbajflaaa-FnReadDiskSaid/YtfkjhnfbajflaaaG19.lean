/- Walks: a drawn flash. Walks: draws of flashes. -/
import Derived.Test.YtfkjhnfbajflaaaG17
namespace Go.Proofs.Ytfkjhnfbajflaaa
set_option linter.unusedVariables false
set_option linter.unusedSimpArgs false
open Go.RowKit Go.Maps
set_option maxHeartbeats 400000
def pgSmall (p : Pg) : Prop := sm p.state ∧ rcSmall p.rc
def bkSmall (b : Bk) : Prop := b.pages.length ≤ 4 ∧ sm b.worn ∧ ∀ p ∈ b.pages, pgSmall p
def flSmall (f : List Bk) : Prop := f.length ≤ 4 ∧ 3 ≤ f.length ∧ ∀ b ∈ f, bkSmall b
theorem sm_of {x : Int} (h1 : -1 ≤ x) (h2 : x ≤ 1000) : sm x := ⟨h1, h2⟩
theorem pgSmall_of {p : Pg} (h : pageOk p = true) : pgSmall p := by
  have h' := h
  unfold pageOk at h
  split at h
  · rename_i h1
    have hr := recOk_addr h
    have hk : p.rc.kind = 1 ∨ p.rc.kind = 2 := by
      unfold recOk kindB at h
      simp at h
      omega
    refine ⟨sm_of (by omega) (by omega), sm_of (by omega) (by omega), sm_of (by omega) (by omega), sm_of (by omega) (by omega), sm_of (by omega) (by omega)⟩
  · split at h
    · rename_i h2
      have : p.rc = rc0 := by simpa using h
      refine ⟨sm_of (by omega) (by omega), ?_⟩
      rw [this]
      exact ⟨⟨by decide, by decide⟩, ⟨by decide, by decide⟩, ⟨by decide, by decide⟩, ⟨by decide, by decide⟩⟩
    · cases h
theorem bkSmall_of {b : Bk} (h : bkFine b) : bkSmall b := ⟨by rw [h.1]; omega, ⟨by have := h.2.1; omega, by have := h.2.2.1; omega⟩, fun p hp => pgSmall_of (h.2.2.2 p hp)⟩
theorem flSmall_of {f : List Bk} (h : flFine f) : flSmall f := ⟨by rw [h.1]; omega, by rw [h.1]; omega, fun b hb => bkSmall_of (h.2 b hb)⟩
theorem flSmall_set {f : List Bk} {b : Bk} (h : flSmall f) (hb : bkSmall b) (i : Nat) : flSmall (f.set i b) :=
  ⟨by rw [List.length_set]; exact h.1, by rw [List.length_set]; exact h.2.1, fun c hc => by rcases mem_set hc with hc | rfl; exact h.2.2 c hc; exact hb⟩
theorem Row.drop {w : World} {b o : Nat} {vs : List Value} (h : Row w (some ⟨b, o, none⟩) vs) (k : Nat) : Row w (some ⟨b, o + k, none⟩) (vs.drop k) := fun hn => by
  obtain ⟨b', o', he, hc⟩ := h (by rintro rfl; simp at hn)
  cases he
  refine ⟨b, o + k, rfl, fun j u hj => ?_⟩
  rw [List.getElem?_drop] at hj
  have := hc (k + j) u hj
  rwa [← Nat.add_assoc] at this
theorem Bks.tail {w : World} {g o : Nat} {b : Bk} {f : List Bk} {x : Option Addr × Nat} {hs : List (Option Addr × Nat)} (h : Bks w (some ⟨g, o, none⟩) (b :: f) (x :: hs)) : Bks w (some ⟨g, o + 2, none⟩) f hs :=
  ⟨by simpa using h.len, by have := h.row.drop 2; simpa [hdrs] using this, fun i c y hc hy => h.pg (i + 1) c y (by simpa using hc) (by simpa using hy)⟩
theorem Apt.tail {lo hi g o o' : Nat} {x : Option Addr × Nat} {hs : List (Option Addr × Nat)} (h : Apt lo hi (some ⟨g, o, none⟩) (x :: hs)) : Apt lo hi (some ⟨g, o', none⟩) hs :=
  ⟨fun b hb => h.top b (by rw [blk_some] at hb ⊢; exact hb), fun i y b hy hb => by
    have := h.in_ (i + 1) y b (by simpa using hy) hb
    exact ⟨this.1, this.2.1, fun e => this.2.2 (by rw [blk_some] at e ⊢; exact e)⟩, fun i j y z b hy hz h1 h2 => by
    have := h.two (i + 1) (j + 1) y z b (by simpa using hy) (by simpa using hz) h1 h2
    omega⟩
/-- block i's pages lie in the same block of memory as before -/
theorem Apt.same {lo hi i : Nat} {A : Option Addr} {hs : List (Option Addr × Nat)} {x y : Option Addr × Nat} (h : Apt lo hi A hs) (hy : hs[i]? = some y) (hx : ∀ b, blk x.1 b → blk y.1 b) : Apt lo hi A (hs.set i x) := by
  have hl := (List.getElem?_eq_some_iff.1 hy).1
  have key : ∀ (j : Nat) (z : Option Addr × Nat) (b : Nat), (hs.set i x)[j]? = some z → blk z.1 b → ∃ z', hs[j]? = some z' ∧ blk z'.1 b := fun j z b hz hb => by
    by_cases hj : j = i
    · subst hj
      rw [List.getElem?_set_self hl] at hz
      cases hz
      exact ⟨y, hy, hx b hb⟩
    · rw [List.getElem?_set_ne (by omega)] at hz
      exact ⟨z, hz, hb⟩
  refine ⟨h.top, fun j z b hz hb => ?_, fun j m z u b hz hu h1 h2 => ?_⟩
  · obtain ⟨z', a1, a2⟩ := key j z b hz hb
    exact h.in_ j z' b a1 a2
  · obtain ⟨z', a1, a2⟩ := key j z b hz h1
    obtain ⟨u', b1, b2⟩ := key m u b hu h2
    exact h.two j m z' u' b a1 b1 a2 b2
theorem Bks.reader {w w' : World} {A : Option Addr} {f : List Bk} {hs : List (Option Addr × Nat)} {R lo hi : Nat} (h : Bks w A f hs) (ha : Agr (· = R) w w') (hApt : Apt lo hi A hs) (hR : R < lo) : Bks w' A f hs :=
  h.keep fun b hb hl => ha.block b hl (fun e => by
    subst e
    rcases hb with hb | ⟨x, hx, hb⟩
    · have := hApt.top _ hb; omega
    · obtain ⟨i, hi'⟩ := List.getElem?_of_mem hx
      have := hApt.in_ i x _ hi' hb; omega)
/-- block k of a flash of four blocks of four pages -/
theorem Bks.pick {w : World} {g o k : Nat} {f : List Bk} {hs : List (Option Addr × Nat)} (h : Bks w (some ⟨g, o, none⟩) f hs) (hl : f.length = 4) (hp : ∀ b ∈ f, b.pages.length = 4) (hk : k < 4) :
    ∃ b pb po cap, f[k]? = some b ∧ hs[k]? = some (some ⟨pb, po, none⟩, cap) ∧ b.pages.length = 4 ∧ 4 ≤ cap ∧ w.cell? ⟨g, o + k * 2, none⟩ = some (.slice (some ⟨pb, po, none⟩) 4 cap) ∧ w.cell? ⟨g, o + k * 2 + 1, none⟩ = some (.int .i64 b.worn) ∧
      w.frozen? ⟨g, o + k * 2, none⟩ = false ∧ w.frozen? ⟨g, o + k * 2 + 1, none⟩ = false ∧ Row w (some ⟨pb, po, none⟩) (pgs b.pages) := by
  obtain ⟨b, hb⟩ := get_some (l := f) (k := k) (by omega)
  have hb4 := hp b (List.mem_of_getElem? hb)
  obtain ⟨⟨X, cap⟩, hx, c0, c1, f0, f1, hr, hc⟩ := h.at_ hb
  dsimp only at hr hc c0
  obtain ⟨pb, po, rfl⟩ := hr.addr (pgs_ne (by intro e; rw [e] at hb4; simp at hb4))
  rw [hb4] at c0 hc
  exact ⟨b, pb, po, cap, hb, hx, hb4, hc, c0, c1, f0, f1, hr⟩
/-- what a draw of a flash answers -/
def FlashPost (B R m : Nat) (w : World) (e : Ending) (w' : World) : Prop :=
  ∃ (g o c : Nat) (f : List Bk), e = .returned (.slice (some ⟨g, o, none⟩) f.length c) ∧ flSmall f ∧ OFl w' w.heap.size w'.heap.size (some ⟨g, o, none⟩) f ∧ Rd w' B R (m + 600) ∧ Agr (· = R) w w'
set_option maxHeartbeats 4000000 in
set_option maxRecDepth 100000 in
theorem spec_l71Flash (B R m : Nat) (w : World) (hm : m ≤ 800000) (hR : Rd w B R m) :
    Calls Try.prog 33 #[.pointer (some ⟨R, 0, none⟩)] w (FlashPost B R m w) := by
  have hRl := hR.lt
  go_enter Try.func33, Try.ntmps33
  go_wp2_with fail
  refine (spec_l71Play B R m _ hm hR).mono ?_
  rintro e w1 ⟨v, A, D, c, lo, hi, s, xs, rfl, hlo, hhi, hc, hO, hst, _, _, _, hR1, hA1⟩
  obtain ⟨hs, hBk, hApt, _, _⟩ := hO
  have hl4 := hst.1.1
  have hsm := Lib.hid (flSmall_of hst.1)
  have hpl := Lib.hid (stFine_pages hst)
  obtain ⟨g, o, rfl⟩ := hBk.addr (by intro e; rw [e] at hl4; simp at hl4)
  have HL := Lib.hid hl4
  generalize s.flash = f at *
  have hs1 := hA1.size
  have hR1a := hR1.alloc (.cells #[.slice (some ⟨g, o, none⟩) 4 c, .slice D 6 6] 39)
  have hBka := hBk.alloc (.cells #[.slice (some ⟨g, o, none⟩) 4 c, .slice D 6 6] 39)
  have hAa : Agr (· = R) w (w1.alloc (.cells #[.slice (some ⟨g, o, none⟩) 4 c, .slice D 6 6] 39)) := hA1.alloc _
  have hhia : hi ≤ (w1.alloc (.cells #[.slice (some ⟨g, o, none⟩) 4 c, .slice D 6 6] 39)).heap.size := by simp; omega
  clear hst hl4 hBk hR1 hA1
  go_wp2_with fail
  refine (spec_pickI 20 20 B R (m + 500) _ rfl (by omega) (by omega) (by omega) hR1a).mono ?_
  rintro e w2 ⟨k, rfl, hk, hR2, hA2⟩
  have hRlo : R < lo := by omega
  have hBk2 : Bks w2 (some ⟨g, o, none⟩) f hs := hBka.reader hA2 hApt hRlo
  have hs2 := hA2.size
  have hA2' := hAa.trans hA2 (fun _ _ h => h)
  have hhi2 : hi ≤ w2.heap.size := by omega
  clear hAa hA2 hBka hR1a hs2 hhia hhi
  replace hR2 : Rd w2 B R (m + 501) := hR2.mono (by omega)
  have P4 : ∀ (p : Nat) (W : World), p ≤ 1000000 → Rd W B R p → _ := fun p W h hr => spec_pickI 4 4 B R p W rfl (by omega) (by omega) h hr
  have HP := Lib.hid P4
  clear P4
  by_cases h0 : k = 0
  · have t0 : ((k : Int) == 0) = true := by subst h0; rfl
    clear h0
    have hR2d := hR2.drew
    have hA2d := hA2'.drew
    have hBk2d := hBk2.drew
    have hhid : hi ≤ w2.drew.heap.size := hhi2
    go_wp2_with fail
    go_region_with (first
      | (go_at_call 45; with_reducible refine (HP.out (m + 501) _ (by omega) hR2d).mono ?_; rintro e w3 ⟨k3, rfl, hk3, hR3, hA3⟩; have hk3' : (k3 : Int) < 4 := (by omega); have hBk3 := hBk2d.reader hA3 hApt hRlo; obtain ⟨b, pb, po, cap, hfb, hhb, hb4, hcap, c0, c1, f0, f1, hRow⟩ := hBk3.pick HL.out hpl.out hk3; have hgl := lt_of_cell c0; have hgR : ¬ g = R := (by have := hApt.top g (blk_some.2 rfl); omega))
      | (go_at_call 45; with_reducible refine (HP.out (m + 501 + 1) _ (by omega) hR3).mono ?_; rintro e w4 ⟨k4, rfl, hk4, hR4, hA4⟩; have hk4' : (k4 : Int) < 4 := (by omega); have hBk4 := hBk3.reader hA4 hApt hRlo; have d0 := (hA4.cell hgl hgR _).trans c0; have hgl4 := lt_of_cell d0)
      | (go_at_call 45; with_reducible refine (HP.out (m + 501 + 1 + 1) _ (by omega) hR4).mono ?_; rintro e w5 ⟨k5, rfl, hk5, hR5, hA5⟩; have hBk5 := hBk4.reader hA5 hApt hRlo; have e0 := (hA5.cell hgl4 hgR _).trans d0; have hgl5 := lt_of_cell e0)
      | (go_at_call 61; with_reducible refine (spec_l71Rec B R (m + 501 + 1 + 1 + 1) _ (by omega) hR5).mono ?_; rintro e w6 ⟨x, rfl, hx, hR6, hA6⟩; have hBk6 := hBk5.reader hA6 hApt hRlo; have g0 := (hA6.cell hgl5 hgR _).trans e0; have hRow6 := (hBk6.pg k3 b _ hfb hhb).1; obtain ⟨q, hq⟩ := get_some (l := b.pages) (k := k4) (by omega); obtain ⟨p0, p1, p2, p3, p4⟩ := hRow6.pg hq; obtain ⟨z0, z1, z2, z3, z4⟩ := hRow6.pgf hq))
    all_goals
      have hW : Wrote w6 (((((w6.setCell ⟨pb, po + k4 * 5, none⟩ (.int .i64 k5)).setCell ⟨pb, po + k4 * 5 + 1, none⟩ (.int .i64 x.kind)).setCell ⟨pb, po + k4 * 5 + 2, none⟩ (.int .i64 x.seq)).setCell ⟨pb, po + k4 * 5 + 3, none⟩ (.int .i64 x.addr)).setCell ⟨pb, po + k4 * 5 + 4, none⟩ (.int .i64 x.val)) pb (po + k4 * 5) (⟨k5, x⟩ : Pg).vs :=
        wrote_setRow pb (⟨k5, x⟩ : Pg).vs (po + k4 * 5) w6 (fun j hj => by
          match j, hj with
          | 0, _ => exact ⟨_, p0⟩
          | 1, _ => exact ⟨_, p1⟩
          | 2, _ => exact ⟨_, p2⟩
          | 3, _ => exact ⟨_, p3⟩
          | 4, _ => exact ⟨_, p4⟩)
      have hA6' := (((hA2d.trans hA3 (fun _ _ h => h)).trans hA4 (fun _ _ h => h)).trans hA5 (fun _ _ h => h)).trans hA6 (fun _ _ h => h)
      have hsz : hi ≤ w6.heap.size := by have h1 := hA3.size; have h2 := hA4.size; have h3 := hA5.size; have h4 := hA6.size; omega
      have hpi := hApt.in_ k3 _ pb hhb (blk_some.2 rfl)
      have hRf := (hR6.agr hW.agr (by omega) (fun b hb e => by have := hR6.le; omega)).mono (n := m + 600) (by omega)
      have hAf := hA6'.trans (S' := (· = pb)) hW.agr (fun b hb e => by omega)
      have hBf := hBk6.setPage (p := ⟨k5, x⟩) hApt hfb hhb (j := k4) (by omega) hW
      have hss := hW.size
      have hsf : flSmall (f.set k3 { b with pages := b.pages.set k4 ⟨k5, x⟩ }) := by
        refine flSmall_set hsm.out ?_ _
        have hb0 := hsm.out.2.2 b (List.mem_of_getElem? hfb)
        refine ⟨by simpa using hb0.1, hb0.2.1, fun q hq => ?_⟩
        rcases mem_set hq with hq | rfl
        · exact hb0.2.2 q hq
        · exact ⟨⟨by dsimp only; omega, by dsimp only; omega⟩, hx⟩
      clear hW hA3 hA4 hA5 hA6 p0 p1 p2 p3 p4
      go_wp2
      go_ret
      exact ⟨g, o, c, f.set k3 { b with pages := b.pages.set k4 ⟨k5, x⟩ }, by rw [List.length_set, HL.out]; rfl, hsf, ⟨hs, hBf, hApt.mono hlo (by omega)⟩, hRf, hAf⟩
  · have t0 : ((k : Int) == 0) = false := by rw [beq_eq_false_iff_ne]; omega
    by_cases h1 : k = 1
    · have t1 : ((k : Int) == 1) = true := by subst h1; rfl
      clear h0 h1
      go_wp2_with fail
      refine (HP.out (m + 501) _ (by omega) hR2).mono ?_
      rintro e w3 ⟨k3, rfl, hk3, hR3, hA3⟩
      have hk3' : (k3 : Int) < 4 := by omega
      have hBk3 := hBk2.reader hA3 hApt hRlo
      have hz := Row.new w3 #[.int .i64 (-1), .int .i64 200, .int .i64 201] 3
      have hR3a := hR3.alloc (.cells #[.int .i64 (-1), .int .i64 200, .int .i64 201] 3)
      have hBk3a := hBk3.alloc (.cells #[.int .i64 (-1), .int .i64 200, .int .i64 201] 3)
      have hA3a := (hA2'.trans hA3 (fun _ _ h => h)).alloc (.cells #[.int .i64 (-1), .int .i64 200, .int .i64 201] 3)
      have hs3 := hA3.size
      have hsw := hA2'.size
      have hsa : w3.heap.size < (w3.alloc (.cells #[.int .i64 (-1), .int .i64 200, .int .i64 201] 3)).heap.size := by simp
      have hne : ¬ w3.heap.size = R := by omega
      go_wp2_with fail
      refine (spec_pickI 3 3 B R (m + 501 + 1) _ rfl (by omega) (by omega) (by omega) hR3a).mono ?_
      rintro e w4 ⟨k4, rfl, hk4, hR4, hA4⟩
      obtain ⟨v4, hv, hv1, hv2⟩ : ∃ v : Int, (#[.int .i64 (-1), .int .i64 200, .int .i64 201] : Array Value).toList[k4]? = some (.int .i64 v) ∧ -1 ≤ v ∧ v ≤ 1000 := by
        rcases (by omega : k4 = 0 ∨ k4 = 1 ∨ k4 = 2) with rfl | rfl | rfl <;> exact ⟨_, rfl, by omega, by omega⟩
      have z0 := (hA4.cell hsa hne k4).trans (hz.at0 hv).1
      have hk4' : (k4 : Int) < 3 := by omega
      have hBk4 := hBk3a.reader hA4 hApt hRlo
      obtain ⟨b, pb, po, cap, hfb, hhb, hb4, hcap, c0, c1, f0, f1, hRow⟩ := hBk4.pick HL.out hpl.out hk3
      have hW := (wrote_one c1 (.int .i64 v4)).less c0
      have hgi := hApt.top g (blk_some.2 rfl)
      have hs4 := hA4.size
      have hA4' := hA3a.trans hA4 (fun _ _ h => h)
      have hBf := hBk4.setHdr (n := v4) hApt hfb hhb (by rw [hb4]; exact hW)
      have hRf := (hR4.agr hW.agr (by omega) (fun b hb e => by have := hR4.le; omega)).mono (n := m + 600) (by omega)
      have hAf := hA4'.trans (S' := (· = g)) hW.agr (fun b hb e => by omega)
      have hss := hW.size
      have hsf : flSmall (f.set k3 { b with worn := v4 }) := by
        refine flSmall_set hsm.out ?_ _
        have hb0 := hsm.out.2.2 b (List.mem_of_getElem? hfb)
        exact ⟨hb0.1, ⟨hv1, hv2⟩, hb0.2.2⟩
      have hsz : hi ≤ w4.heap.size := by simp at hs4; omega
      clear hW hz hR3a hBk3a hA3a hBk3 hA3 hA4 hRow
      go_wp2
      go_ret
      exact ⟨g, o, c, f.set k3 { b with worn := v4 }, by rw [List.length_set, HL.out]; rfl, hsf, ⟨hs, hBf, hApt.mono hlo (by omega)⟩, hRf, hAf⟩
    · have t1 : ((k : Int) == 1) = false := by rw [beq_eq_false_iff_ne]; omega
      by_cases h2 : k = 2
      · have t2 : ((k : Int) == 2) = true := by subst h2; rfl
        clear h0 h1 h2
        go_wp2
        go_ret
        have hl4 := HL.out
        cases f with
        | nil => simp at hl4
        | cons b f =>
          cases hs with
          | nil => have := hBk2.len; simp at this
          | cons x hs =>
            have hl3 : f.length = 3 := by simpa using hl4
            exact ⟨g, o + 2, c - 1, f, by rw [hl3]; rfl, ⟨by omega, by omega, fun y hy => hsm.out.2.2 y (List.mem_cons_of_mem _ hy)⟩, ⟨hs, hBk2.tail, (hApt.mono hlo hhi2).tail⟩, hR2.mono (by omega), hA2'⟩
      · have t2 : ((k : Int) == 2) = false := by rw [beq_eq_false_iff_ne]; omega
        by_cases h3 : k = 3
        · have t3 : ((k : Int) == 3) = true := by subst h3; rfl
          clear h0 h1 h2 h3
          go_wp2_with fail
          refine (HP.out (m + 501) _ (by omega) hR2).mono ?_
          rintro e w3 ⟨k3, rfl, hk3, hR3, hA3⟩
          have hk3' : (k3 : Int) < 4 := by omega
          have hBk3 := hBk2.reader hA3 hApt hRlo
          obtain ⟨b, pb, po, cap, hfb, hhb, hb4, hcap, c0, c1, f0, f1, hRow⟩ := hBk3.pick HL.out hpl.out hk3
          have hW := (wrote_one c0 (.slice (some ⟨pb, po + 5, none⟩) 3 (cap - 1))).more c1
          have hgi := hApt.top g (blk_some.2 rfl)
          have hpi := hApt.in_ k3 _ pb hhb (blk_some.2 rfl)
          have hs3 := hA3.size
          have hA3' := hA2'.trans hA3 (fun _ _ h => h)
          obtain ⟨q, ps, hbp⟩ : ∃ q ps, b.pages = q :: ps := by
            cases h : b.pages with
            | nil => rw [h] at hb4; simp at hb4
            | cons q ps => exact ⟨q, ps, rfl⟩
          have hps : ps.length = 3 := by rw [hbp] at hb4; simpa using hb4
          have hRow2 : Row w3 (some ⟨pb, po + 5, none⟩) (pgs ps) := by
            have := hRow.drop 5
            rw [hbp] at this
            exact this
          have hBf := hBk3.setBlock (c := ⟨ps, b.worn⟩) (x := (some ⟨pb, po + 5, none⟩, cap - 1)) (by rw [HL.out]; exact hk3) (fun j y hy e => (hApt.in_ j y g hy e).2.2 (blk_some.2 rfl)) (by rw [blk_some]; intro e; exact hpi.2.2 (blk_some.2 e.symm)) hRow2 (by show ps.length ≤ cap - 1; omega) (by show Wrote _ _ _ _ [.slice _ ps.length _, _]; rw [hps]; exact hW)
          have hApf := hApt.same (x := (some ⟨pb, po + 5, none⟩, cap - 1)) hhb (fun b hb => by rw [blk_some] at hb ⊢; exact hb)
          have hRf := (hR3.agr hW.agr (by omega) (fun b hb e => by have := hR3.le; omega)).mono (n := m + 600) (by omega)
          have hAf := hA3'.trans (S' := (· = g)) hW.agr (fun b hb e => by omega)
          have hss := hW.size
          have hsf : flSmall (f.set k3 ⟨ps, b.worn⟩) := by
            refine flSmall_set hsm.out ?_ _
            have hb0 := hsm.out.2.2 b (List.mem_of_getElem? hfb)
            exact ⟨by show ps.length ≤ 4; omega, hb0.2.1, fun y hy => hb0.2.2 y (by rw [hbp]; exact List.mem_cons_of_mem _ hy)⟩
          clear hW hA3 hRow hRow2 hbp
          have hcap' : (1 : Int) ≤ 4 := by omega
          go_wp2
          go_ret
          exact ⟨g, o, c, f.set k3 ⟨ps, b.worn⟩, by rw [List.length_set, HL.out]; rfl, hsf, ⟨_, hBf, hApf.mono hlo (by omega)⟩, hRf, hAf⟩
        · have t3 : ((k : Int) == 3) = false := by rw [beq_eq_false_iff_ne]; omega
          clear h0 h1 h2 h3
          go_wp2
          go_ret
          exact ⟨g, o, c, f, by rw [HL.out]; rfl, hsm.out, ⟨hs, hBk2, hApt.mono hlo hhi2⟩, hR2.mono (by omega), hA2'⟩
end Go.Proofs.Ytfkjhnfbajflaaa
namespace Go.Proofs.Ytfkjhnfbajflaaa
set_option linter.unusedVariables false
set_option linter.unusedSimpArgs false
open Go.RowKit Go.Maps
set_option maxHeartbeats 400000
/-- a code that can be read -/
structure Code (w : World) (A : Option Addr) (bs : List Nat) (c : Nat) : Prop where
  len : bs.length ≤ c
  cap : c ≤ 9223372036854775807
  byte : ∀ b ∈ bs, b < 256
  row : RRow w A (bytes bs)
def DrawnFl (w w' : World) (g o : Nat) (f : List Bk) : Prop := flSmall f ∧ OFl w' w.heap.size w'.heap.size (some ⟨g, o, none⟩) f ∧ Below w.heap.size w w'
theorem spec_DrawFindOpen (A : Option Addr) (bs : List Nat) (c : Nat) (w : World) (hc : Code w A bs c) :
    Calls Try.prog 9 #[.slice A bs.length c] w fun e w' => ∃ g o c f, e = .returned (.slice (some ⟨g, o, none⟩) f.length c) ∧ DrawnFl w w' g o f := by
  go_enter Try.func9, Try.ntmps9
  go_wp2_with fail
  refine (spec_l6Open A bs c _ hc.len hc.cap hc.byte hc.row).mono ?_
  rintro e w1 ⟨rfl, hR1, hb1⟩
  go_wp2_with fail
  refine (spec_l71Flash _ _ 0 _ (by omega) hR1).mono ?_
  rintro e w2 ⟨g, o, c, f, rfl, hf, hO, hR2, hA2⟩
  have hs := hb1.size
  go_wp2
  go_ret
  exact ⟨g, o, c, f, rfl, hf, hO.mono hs (Nat.le_refl _), hb1.trans (hA2.below (by omega) (fun i hi => by omega))⟩
end Go.Proofs.Ytfkjhnfbajflaaa
