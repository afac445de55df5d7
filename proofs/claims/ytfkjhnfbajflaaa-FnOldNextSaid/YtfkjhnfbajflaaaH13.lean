/- Walk: a drawn flash, perhaps with two pages exchanged. -/
import Derived.Test.YtfkjhnfbajflaaaH4
import Derived.RegionTactic
import Derived.BigRegion
namespace Go.Proofs.Ytfkjhnfbajflaaa
set_option linter.unusedVariables false
set_option linter.unusedSimpArgs false
open Go.RowKit Go.Maps
set_option maxHeartbeats 400000
/-- block k of a flash -/
theorem blockAt {w : World} {g o k : Nat} {f : List Bk} {hs : List (Option Addr × Nat)} (h : Bks w (some ⟨g, o, none⟩) f hs) (hl : k < f.length) :
    ∃ b x, f[k]? = some b ∧ hs[k]? = some x ∧ w.cell? ⟨g, o + k * 2, none⟩ = some (.slice x.1 b.pages.length x.2) := by
  obtain ⟨b, hb⟩ := get_some hl
  obtain ⟨x, hx, c0, _⟩ := h.at_ hb
  exact ⟨b, x, hb, hx, c0⟩
set_option maxHeartbeats 4000000 in
set_option maxRecDepth 100000 in
theorem spec_DrawFindOrder (A : Option Addr) (bs : List Nat) (c : Nat) (w : World) (hc : Code w A bs c) :
    Calls Try.prog 16 #[.slice A bs.length c] w fun e w' => ∃ g o c f, e = .returned (.slice (some ⟨g, o, none⟩) f.length c) ∧ DrawnFl w w' g o f := by
  go_enter Try.func16, Try.ntmps16
  go_wp2_with fail
  refine (spec_l6Open A bs c _ hc.len hc.cap hc.byte hc.row).mono ?_
  rintro e w1 ⟨rfl, hR1, hb1⟩
  go_wp2_with fail
  refine (spec_l71Flash _ _ 0 _ (by omega) hR1).mono ?_
  rintro e w2 ⟨g, o, c, f, rfl, hf, ⟨hs, hBk, hApt⟩, hR2, hA2⟩
  have hRl := hR1.lt
  have hs1 := hb1.size
  have hs2 := hA2.size
  have hB2 : Below w.heap.size w w2 := hb1.trans (hA2.below (by omega) (fun i hi => by omega))
  have hF := Lib.hid hf
  have hRlo : w.heap.size < w1.heap.size := by omega
  have hf3 := hf.2.1
  clear hf hA2 hb1
  go_wp2_with fail
  refine (spec_pickI 3 3 _ _ (0 + 600) _ rfl (by omega) (by omega) (by omega) hR2).mono ?_
  rintro e w3 ⟨k3, rfl, hk3, hR3, hA3⟩
  have hs3 := hA3.size
  have hBk3 := hBk.reader hA3 hApt hRlo
  have hB3 := hB2.trans (hA3.below (B := w.heap.size) (by omega) (fun i hi => by omega))
  have hOf : OFl w3 w.heap.size w3.heap.size (some ⟨g, o, none⟩) f := ⟨hs, hBk3, hApt.mono hs1 hs3⟩
  clear hA3 hBk hB2
  by_cases h3 : k3 = 0
  · have t3 : ((k3 : Int) == 0) = true := by subst h3; rfl
    have hfl1 : (1 : Int) < f.length := by omega
    obtain ⟨b0, ⟨X0, cx0⟩, hb0, hx0, c0⟩ := blockAt (k := 0) hBk3 (by omega)
    obtain ⟨b1, ⟨X1, cx1⟩, hb1, hx1, c1⟩ := blockAt (k := 1) hBk3 (by omega)
    dsimp only at c0 c1
    rw [Nat.zero_mul, Nat.add_zero] at c0
    rw [Nat.one_mul] at c1
    have hf0 : (0 : Int) < f.length := by omega
    by_cases h5 : 1 < b0.pages.length
    · have h5i : (1 : Int) < b0.pages.length := by omega
      by_cases h6 : 1 < b1.pages.length
      · have h6i : (1 : Int) < b1.pages.length := by omega
        have hR0 := (hBk3.pg 0 b0 _ hb0 hx0).1
        have hR1' := (hBk3.pg 1 b1 _ hb1 hx1).1
        obtain ⟨pa, po, rfl⟩ := hR0.addr (pgs_ne (by intro e; rw [e] at h5; simp at h5))
        obtain ⟨pb, qo, rfl⟩ := hR1'.addr (pgs_ne (by intro e; rw [e] at h6; simp at h6))
        obtain ⟨p, hp⟩ := get_some (l := b0.pages) (k := 1) h5
        obtain ⟨q, hq⟩ := get_some (l := b1.pages) (k := 1) h6
        obtain ⟨a0, a1, a2, a3, a4⟩ := hR0.pg hp
        have HF0 := Lib.hid hb0
        have HF1 := Lib.hid hb1
        have HX0 := Lib.hid hx0
        have HX1 := Lib.hid hx1
        have HP := Lib.hid hp
        have HQ := Lib.hid hq
        have hga := hApt.in_ 0 _ pa hx0 (blk_some.2 rfl)
        have hgb := hApt.in_ 1 _ pb hx1 (blk_some.2 rfl)
        have hgt := hApt.top g (blk_some.2 rfl)
        have hab : ¬ pa = pb := fun e => by
          subst e
          have := hApt.two 0 1 _ _ pa hx0 hx1 (blk_some.2 rfl) (blk_some.2 rfl)
          omega
        have hba : ¬ pb = pa := fun e => hab e.symm
        have hag : ¬ pa = g := fun e => hga.2.2 (blk_some.2 e.symm)
        have hbg : ¬ pb = g := fun e => hgb.2.2 (blk_some.2 e.symm)
        have hgpa : ¬ g = pa := fun e => hga.2.2 (blk_some.2 e)
        have hgpb : ¬ g = pb := fun e => hgb.2.2 (blk_some.2 e)
        clear hR0 hR1' hb0 hb1 hx0 hx1 hp hq
        go_wp2
        obtain ⟨V, hV⟩ : ∃ V, w3.alloc (.cells #[.int .i64 p.state, .int .i64 p.rc.kind, .int .i64 p.rc.seq, .int .i64 p.rc.addr, .int .i64 p.rc.val] 59) = V := ⟨_, rfl⟩
        have hBV : Below w3.heap.size w3 V := by rw [← hV]; exact (Below.refl _ _).alloc (Nat.le_refl _) _
        have hVs : V.heap.size = w3.heap.size + 1 := by rw [← hV]; simp
        have hbox : ∀ j u, p.vs[j]? = some u → V.cell? ⟨w3.heap.size, j, none⟩ = some u := fun j u hj => by rw [← hV]; simpa [Pg.vs] using hj
        rw [hV]
        clear hV a0 a1 a2 a3 a4
        have hBkV := hBk3.below hBV (Nat.le_refl _)
        have hRa := (hBkV.pg 0 b0 _ HF0.out HX0.out).1
        have hRb := (hBkV.pg 1 b1 _ HF1.out HX1.out).1
        have k0 : V.cell? ⟨g, o, none⟩ = some (.slice (some ⟨pa, po, none⟩) b0.pages.length cx0) := (hBV.cell (p := ⟨g, o, none⟩) (by show g < _; omega)).trans c0
        have k1 : V.cell? ⟨g, o + 2, none⟩ = some (.slice (some ⟨pb, qo, none⟩) b1.pages.length cx1) := (hBV.cell (p := ⟨g, o + 2, none⟩) (by show g < _; omega)).trans c1
        obtain ⟨e0, e1, e2, e3, e4⟩ := hRb.pg HQ.out
        obtain ⟨z0, z1, z2, z3, z4⟩ := hRa.pgf HP.out
        obtain ⟨a0, a1, a2, a3, a4⟩ := hRa.pg HP.out
        rw [Nat.one_mul] at e0 e1 e2 e3 e4 z0 z1 z2 z3 z4 a0 a1 a2 a3 a4
        have hf0n : 0 < f.length := by omega
        have hfne : f ≠ [] := by intro e; rw [e] at hf0n; simp at hf0n
        have hfne2 : ¬ f.length = 0 := by omega
        have hfl1n : 1 < f.length := by omega
        go_region_held3 (fun w' => w'.cell? ⟨g, o, none⟩ = some (.slice (some ⟨pa, po, none⟩) b0.pages.length cx0) ∧ w'.cell? ⟨g, o + 2, none⟩ = some (.slice (some ⟨pb, qo, none⟩) b1.pages.length cx1) ∧ w'.cell? ⟨pb, qo + 5, none⟩ = some (.int .i64 q.state) ∧ w'.cell? ⟨pb, qo + 5 + 1, none⟩ = some (.int .i64 q.rc.kind) ∧ w'.cell? ⟨pb, qo + 5 + 2, none⟩ = some (.int .i64 q.rc.seq) ∧ w'.cell? ⟨pb, qo + 5 + 3, none⟩ = some (.int .i64 q.rc.addr) ∧ w'.cell? ⟨pb, qo + 5 + 4, none⟩ = some (.int .i64 q.rc.val))
          (first | go_keep | trivial)
          (fail)
        have hW := wrote_page hRa HP.out q
        rw [Nat.one_mul] at hW
        obtain ⟨V5, hV5⟩ : ∃ V5, ((((V.setCell ⟨pa, po + 5, none⟩ (.int .i64 q.state)).setCell ⟨pa, po + 5 + 1, none⟩ (.int .i64 q.rc.kind)).setCell ⟨pa, po + 5 + 2, none⟩ (.int .i64 q.rc.seq)).setCell ⟨pa, po + 5 + 3, none⟩ (.int .i64 q.rc.addr)).setCell ⟨pa, po + 5 + 4, none⟩ (.int .i64 q.rc.val) = V5 := ⟨_, rfl⟩
        rw [hV5] at hW ⊢
        clear hV5 a0 a1 a2 a3 a4 z0 z1 z2 z3 z4 e0 e1 e2 e3 e4
        have hBk5 := hBkV.setPage (p := q) hApt HF0.out HX0.out h5 (by rw [Nat.one_mul]; exact hW)
        have hb15 : (f.set 0 { b0 with pages := b0.pages.set 1 q })[1]? = some b1 := by rw [List.getElem?_set_ne (by omega)]; exact HF1.out
        replace hb15 := Lib.hid hb15
        have hfar : ∀ b, b ≠ pa → ∀ i, V5.cell? ⟨b, i, none⟩ = V.cell? ⟨b, i, none⟩ := fun b hb i => World.cell?_of_block (a := ⟨b, i, none⟩) (hW.block b hb)
        have m1 : V5.cell? ⟨g, o + 2, none⟩ = some (.slice (some ⟨pb, qo, none⟩) b1.pages.length cx1) := (hfar g hgpa _).trans k1
        have hnw : w3.heap.size ≠ pa := by omega
        have x0 := (hfar _ hnw 0).trans (hbox 0 _ rfl)
        have x1 := (hfar _ hnw 1).trans (hbox 1 _ rfl)
        have x2 := (hfar _ hnw 2).trans (hbox 2 _ rfl)
        have x3 := (hfar _ hnw 3).trans (hbox 3 _ rfl)
        have x4 := (hfar _ hnw 4).trans (hbox 4 _ rfl)
        have hRb5 := (hBk5.pg 1 b1 _ hb15.out HX1.out).1
        obtain ⟨e0, e1, e2, e3, e4⟩ := hRb5.pg HQ.out
        obtain ⟨z0, z1, z2, z3, z4⟩ := hRb5.pgf HQ.out
        rw [Nat.one_mul] at e0 e1 e2 e3 e4 z0 z1 z2 z3 z4
        have hwpb : ¬ w3.heap.size = pb := by omega
        have hpbw : ¬ pb = w3.heap.size := by omega
        have H5s := hW.size
        have HB5 : Below w.heap.size w V5 := (hB3.trans (hBV.mono (by omega))).trans (hW.agr.below (by omega) (fun k e => by omega))
        have HWq := Lib.hid (fun (w' : World) (h : Wrote V5 w' pb (qo + 5) p.vs) => h)
        clear hfar k0 k1 c0 c1 hbox hW hBk3 hBkV
        go_wp2
        go_region_held3 (fun w' => w'.cell? ⟨g, o + 2, none⟩ = some (.slice (some ⟨pb, qo, none⟩) b1.pages.length cx1) ∧ w'.cell? ⟨w3.heap.size, 0, none⟩ = some (.int .i64 p.state) ∧ w'.cell? ⟨w3.heap.size, 1, none⟩ = some (.int .i64 p.rc.kind) ∧ w'.cell? ⟨w3.heap.size, 2, none⟩ = some (.int .i64 p.rc.seq) ∧ w'.cell? ⟨w3.heap.size, 3, none⟩ = some (.int .i64 p.rc.addr) ∧ w'.cell? ⟨w3.heap.size, 4, none⟩ = some (.int .i64 p.rc.val))
          (first | go_keep | trivial)
          (fail)
        have hW := wrote_page hRb5 HQ.out p
        rw [Nat.one_mul] at hW
        obtain ⟨V6, hV6⟩ : ∃ V6, ((((V5.setCell ⟨pb, qo + 5, none⟩ (.int .i64 p.state)).setCell ⟨pb, qo + 5 + 1, none⟩ (.int .i64 p.rc.kind)).setCell ⟨pb, qo + 5 + 2, none⟩ (.int .i64 p.rc.seq)).setCell ⟨pb, qo + 5 + 3, none⟩ (.int .i64 p.rc.addr)).setCell ⟨pb, qo + 5 + 4, none⟩ (.int .i64 p.rc.val) = V6 := ⟨_, rfl⟩
        have hW' := hW
        rw [hV6] at hW' ⊢
        have hBk6 := hBk5.setPage (p := p) hApt hb15.out HX1.out h6 (by rw [Nat.one_mul]; exact hW')
        have HB6 : Below w.heap.size w V6 := HB5.trans (hW'.agr.below (by omega) (fun k e => by omega))
        have hsz6 : w2.heap.size ≤ V6.heap.size := by have := hW'.size; omega
        have hsp0 : bkSmall { b0 with pages := b0.pages.set 1 q } := by
          have h0 := hF.out.2.2 b0 (List.mem_of_getElem? HF0.out)
          have h1 := hF.out.2.2 b1 (List.mem_of_getElem? HF1.out)
          refine ⟨by simpa using h0.1, h0.2.1, fun y hy => ?_⟩
          rcases mem_set hy with hy | rfl
          · exact h0.2.2 y hy
          · exact h1.2.2 _ (List.mem_of_getElem? HQ.out)
        have hsp1 : bkSmall { b1 with pages := b1.pages.set 1 p } := by
          have h0 := hF.out.2.2 b0 (List.mem_of_getElem? HF0.out)
          have h1 := hF.out.2.2 b1 (List.mem_of_getElem? HF1.out)
          refine ⟨by simpa using h1.1, h1.2.1, fun y hy => ?_⟩
          rcases mem_set hy with hy | rfl
          · exact h1.2.2 y hy
          · exact h0.2.2 _ (List.mem_of_getElem? HP.out)
        have hsf := Lib.hid (flSmall_set (flSmall_set hF.out hsp0 0) hsp1 1)
        have hOf6 : OFl V6.drew.drew w.heap.size V6.drew.drew.heap.size (some ⟨g, o, none⟩) ((f.set 0 { b0 with pages := b0.pages.set 1 q }).set 1 { b1 with pages := b1.pages.set 1 p }) := ⟨hs, hBk6.drew.drew, hApt.mono hs1 hsz6⟩
        have hlen6 : ((f.set 0 { b0 with pages := b0.pages.set 1 q }).set 1 { b1 with pages := b1.pages.set 1 p }).length = f.length := by simp
        replace HB6 : Below w.heap.size w V6.drew.drew := HB6.drew.drew
        clear hsp0 hsp1 hBk6 hBk5 hW e0 e1 e2 e3 e4 z0 z1 z2 z3 z4 x0 x1 x2 x3 x4
        go_wp2
        go_ret
        exact ⟨g, o, c, _, by rw [hlen6]; rfl, hsf.out, hOf6, HB6⟩
      · have h6i : ¬ (1 : Int) < b1.pages.length := by omega
        go_wp2
        go_ret
        exact ⟨g, o, c, f, rfl, hF.out, hOf, hB3⟩
    · have h5i : ¬ (1 : Int) < b0.pages.length := by omega
      go_wp2
      go_ret
      exact ⟨g, o, c, f, rfl, hF.out, hOf, hB3⟩
  · have t3 : ((k3 : Int) == 0) = false := by rw [beq_eq_false_iff_ne]; omega
    clear h3
    go_wp2
    go_ret
    exact ⟨g, o, c, f, rfl, hF.out, hOf, hB3⟩
end Go.Proofs.Ytfkjhnfbajflaaa
