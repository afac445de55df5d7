/- What the laws' walks share: words, plain laws, and the walks of functions, part 4. -/
import Derived.Deep.RegionHeld3
import Derived.BigQuiet
import Derived.Test.YtbekihiiildgmaaU3
namespace Go.Proofs.Ytbekihiiildgmaa
set_option linter.unusedVariables false
set_option linter.unusedSimpArgs false
open Go.RowKit Go.Maps
set_option maxHeartbeats 400000
theorem Row.sp {w : World} {b o k : Nat} {xs : List Sp} {x : Sp} (h : Row w (some ⟨b, o, none⟩) (sps xs)) (hk : xs[k]? = some x) :
    w.cell? ⟨b, o + k * 8, none⟩ = some (.int .i64 x.kind) ∧ w.cell? ⟨b, o + k * 8 + 1, none⟩ = some (.int .i64 x.addr) ∧ w.cell? ⟨b, o + k * 8 + 2, none⟩ = some (.int .i64 x.val) ∧ w.cell? ⟨b, o + k * 8 + 3, none⟩ = some (.int .i64 x.block) ∧
    w.cell? ⟨b, o + k * 8 + 4, none⟩ = some (.int .i64 x.rc.kind) ∧ w.cell? ⟨b, o + k * 8 + 5, none⟩ = some (.int .i64 x.rc.seq) ∧ w.cell? ⟨b, o + k * 8 + 6, none⟩ = some (.int .i64 x.rc.addr) ∧ w.cell? ⟨b, o + k * 8 + 7, none⟩ = some (.int .i64 x.rc.val) := by
  have hlt := (List.getElem?_eq_some_iff.1 hk).1
  obtain ⟨b', o', he, hc⟩ := h (by intro e; have := sps_len xs; rw [e] at this; simp at this; omega)
  cases he
  have hg : ∀ j u, x.vs[j]? = some u → j < 8 → w.cell? ⟨b, o + (k * 8 + j), none⟩ = some u := fun j u hj hl => (hc (k * 8 + j) u (by rw [sps, flat_get _ 8 (fun _ => rfl) xs k j x hk hl]; exact hj)).1
  exact ⟨hg 0 _ rfl (by omega), hg 1 _ rfl (by omega), hg 2 _ rfl (by omega), hg 3 _ rfl (by omega), hg 4 _ rfl (by omega), hg 5 _ rfl (by omega), hg 6 _ rfl (by omega), hg 7 _ rfl (by omega)⟩
theorem doAllOf_snoc (s : St) (xs : List Sp) (x : Sp) : doAllOf s (xs ++ [x]) = doStep (doAllOf s xs) x false := by
  unfold doAllOf; rw [List.foldl_append]; rfl
theorem doAllOf_take {xs : List Sp} {k : Nat} {x : Sp} (s : St) (h : xs[k]? = some x) : doAllOf s (xs.take (k + 1)) = doStep (doAllOf s (xs.take k)) x false := by
  rw [List.take_add_one, h]; exact doAllOf_snoc _ _ _
theorem OSt.drew {w : World} {lo hi : Nat} {A D : Option Addr} {f : List Bk} {xs : List Int} (h : OSt w lo hi A f D xs) : OSt w.drew lo hi A f D xs := h.keep fun _ _ _ _ => rfl
set_option maxHeartbeats 4000000 in
set_option maxRecDepth 100000 in
theorem spec_l12To (s : St) (xs : List Sp) (cut : Int) (torn : Bool) (A D V : Option Addr) (c d cs lo hi : Nat) (w : World) (hs : stFine s) (hx : ∀ x ∈ xs, spFine x) (hl : xs.length < 1000000000000) (hhi : hi ≤ w.heap.size) (hO : OSt w lo hi A s.flash D s.disk) (hX : Row w V (sps xs)) (hV : ∀ b, blk V b → ¬ (lo ≤ b ∧ b < hi)) :
    Calls Try.prog 83 #[.agg #[.slice A 4 c, .slice D 6 d], .slice V xs.length cs, .int .i64 cut, .bool torn] w fun r w' =>
      r = .returned (.agg #[.slice A 4 c, .slice D 6 d]) ∧ OSt w' lo hi A (doTo s xs cut torn).flash D (doTo s xs cut torn).disk ∧ Agr (fun b => lo ≤ b ∧ b < hi) w w' := by
  have HX := Lib.hid hx
  have HS := Lib.hid hs
  have HV := Lib.hid hV
  clear hx hs hV
  go_enter Try.func83, Try.ntmps83
  go_wp2
  go_loopw [9] (fun i wr => ∃ k : Nat, k ≤ xs.length ∧ i = .int .i64 k ∧ (k : Int) ≤ max cut 0 ∧ OSt wr lo hi A (doAllOf s (xs.take k)).flash D (doAllOf s (xs.take k)).disk ∧ Agr (fun b => lo ≤ b ∧ b < hi) w wr ∧ w.heap.size + 1 < wr.heap.size ∧
    (wr.cell? ⟨w.heap.size, 0, none⟩ = some (.slice A 4 c) ∧ wr.cell? ⟨w.heap.size, 1, none⟩ = some (.slice D 6 d) ∧ wr.frozen? ⟨w.heap.size, 0, none⟩ = false ∧ wr.frozen? ⟨w.heap.size, 1, none⟩ = false) ∧
    (∃ u0 u1, wr.cell? ⟨w.heap.size + 1, 0, none⟩ = some u0 ∧ wr.cell? ⟨w.heap.size + 1, 1, none⟩ = some u1 ∧ wr.frozen? ⟨w.heap.size + 1, 0, none⟩ = false ∧ wr.frozen? ⟨w.heap.size + 1, 1, none⟩ = false)) (fun i _ => xs.length - (intOf i).toNat)
  case atStart =>
    have hN := Row.new (w.alloc (.cells #[.slice A 4 c, .slice D 6 d] 26)) #[.slice none 0 0, .slice none 0 0] 26
    simp only [World.size_alloc] at hN
    have hM := (Row.new w #[.slice A 4 c, .slice D 6 d] 26).alloc (.cells #[.slice none 0 0, .slice none 0 0] 26)
    exact ⟨0, by omega, rfl, by omega, (hO.alloc' _).alloc' _, ((Agr.refl _ _).alloc _).alloc _, by simp, ⟨(hM.at0 (j := 0) rfl).1, (hM.at0 (j := 1) rfl).1, (hM.at0 (j := 0) rfl).2, (hM.at0 (j := 1) rfl).2⟩, ⟨_, _, (hN.at0 (j := 0) rfl).1, (hN.at0 (j := 1) rfl).1, (hN.at0 (j := 0) rfl).2, (hN.at0 (j := 1) rfl).2⟩⟩
  case round =>
    obtain ⟨k, hk, rfl, hkc, hOk, hA, hsz, ⟨b0, b1, b2, b3⟩, ⟨u0, u1, q0, q1, q2, q3⟩⟩ := hrel
    by_cases hgo : k < xs.length ∧ (k : Int) < cut
    · obtain ⟨hlt, hct⟩ := hgo
      obtain ⟨x, hxk⟩ := get_some hlt
      have hxf := HX.out x (List.mem_of_getElem? hxk)
      have hst := doAllOf_fine (xs := xs.take k) HS.out (fun y hy => HX.out y (List.mem_of_mem_take hy))
      have hXk := hX.agr hA HV.out
      obtain ⟨vb, vo, rfl⟩ := hXk.addr (by intro e; have := sps_len xs; rw [e] at this; simp at this; omega)
      obtain ⟨c0, c1, c2, c3, c4, c5, c6, c7⟩ := hXk.sp hxk
      have hst2 := doAllOf_take s hxk
      have HT := Lib.hid hst2
      have hk1 : (k : Int) < xs.length := by omega
      clear hst2 hxk hXk
      go_wp2
      have hle : hi ≤ wr.drew.heap.size := by show hi ≤ wr.heap.size; omega
      have hn0 : ¬ (lo ≤ w.heap.size ∧ w.heap.size < hi) := by omega
      have hl0 : w.heap.size < wr.drew.heap.size := by show w.heap.size < wr.heap.size; omega
      have hOd := hOk.drew
      have g0 : wr.drew.cell? ⟨w.heap.size, 0, none⟩ = some (.slice A 4 c) := b0
      have g1 : wr.drew.cell? ⟨w.heap.size, 1, none⟩ = some (.slice D 6 d) := b1
      have g2 : wr.drew.frozen? ⟨w.heap.size, 0, none⟩ = false := b2
      have g3 : wr.drew.frozen? ⟨w.heap.size, 1, none⟩ = false := b3
      go_region_with (first | (go_at_call 134; refine (spec_l12Do (doAllOf s (xs.take k)) x false A D c d lo hi _ hst hxf hle hOd).mono ?_; rintro e w1 ⟨rfl, hO1, hA1⟩; have d0 := (hA1.cell hl0 hn0 0).trans g0; have d1 := (hA1.cell hl0 hn0 1).trans g1; have d2 := (hA1.fz hl0 hn0 0).trans g2; have d3 := (hA1.fz hl0 hn0 1).trans g3))
      all_goals
        have hn1 : ¬ (lo ≤ w.heap.size + 1 ∧ w.heap.size + 1 < hi) := by omega
        have hl1 : w.heap.size + 1 < wr.drew.heap.size := hsz
        have r0 := (hA1.cell hl1 hn1 0).trans (show wr.drew.cell? ⟨w.heap.size + 1, 0, none⟩ = some u0 from q0)
        have r1 := (hA1.cell hl1 hn1 1).trans (show wr.drew.cell? ⟨w.heap.size + 1, 1, none⟩ = some u1 from q1)
        have r2 := (hA1.fz hl1 hn1 0).trans (show wr.drew.frozen? ⟨w.heap.size + 1, 0, none⟩ = false from q2)
        have r3 := (hA1.fz hl1 hn1 1).trans (show wr.drew.frozen? ⟨w.heap.size + 1, 1, none⟩ = false from q3)
        have hA2 := hA.drew.trans hA1 (fun b _ hb => hb)
        have hs1 : wr.heap.size ≤ w1.heap.size := hA1.size
        rw [← HT.out] at hO1
        have hW : Wrote w1 ((w1.setCell ⟨w.heap.size, 0, none⟩ (.slice A 4 c)).setCell ⟨w.heap.size, 1, none⟩ (.slice D 6 d)) w.heap.size 0 [.slice A 4 c, .slice D 6 d] := wrote_setRow w.heap.size [.slice A 4 c, .slice D 6 d] 0 w1 (fun j hj => by
          match j, hj with
          | 0, _ => exact ⟨_, d0⟩
          | 1, _ => exact ⟨_, d1⟩)
        have hO3 : OSt _ lo hi A (doAllOf s (xs.take (k + 1))).flash D (doAllOf s (xs.take (k + 1))).disk := hO1.keep fun b h1 h2 _ => hW.block b (by omega)
        have hA3 := hA2.trans (S' := (· = w.heap.size)) hW.agr (fun b hb e => by omega)
        have t0 := hW.new_ 0 _ rfl
        have t1 := hW.new_ 1 _ rfl
        have t2 := (hW.frozen ⟨w.heap.size, 0, none⟩).trans d2
        have t3 := (hW.frozen ⟨w.heap.size, 1, none⟩).trans d3
        have s0 := (hW.agr.cell (b := w.heap.size + 1) (by omega) (by omega) 0).trans r0
        have s1 := (hW.agr.cell (b := w.heap.size + 1) (by omega) (by omega) 1).trans r1
        have s2 := (hW.frozen ⟨w.heap.size + 1, 0, none⟩).trans r2
        have s3 := (hW.frozen ⟨w.heap.size + 1, 1, none⟩).trans r3
        have hss := hW.size
        clear hW
        go_wp2
        go_roundw
        (case rel => exact ⟨k + 1, by omega, by go_num, by omega, hO3, hA3, by omega, ⟨t0, t1, t2, t3⟩, ⟨u0, u1, s0, s1, s2, s3⟩⟩)
        (case measure => simp [intOf]; omega)
    · have hT : Hid (doAllOf s (xs.take k) = doAllOf s (xs.take cut.toNat)) := by
        rw [Hid]
        congr 1
        by_cases h : k < xs.length
        · have : ¬ (k : Int) < cut := fun h2 => hgo ⟨h, h2⟩
          rw [show cut.toNat = k by omega]
        · rw [List.take_of_length_le (by omega)]
          by_cases h2 : xs.length ≤ cut.toNat
          · rw [List.take_of_length_le h2]
          · rw [show cut.toNat = xs.length by omega, List.take_of_length_le (Nat.le_refl _)]
      have hgd : (k : Int) < xs.length → ¬ (k : Int) < cut := fun h h2 => hgo ⟨by omega, h2⟩
      rw [hT.out] at hOk
      clear hgo
      cases torn
      · have h3 : Hid (doTo s xs cut false = doAllOf s (xs.take cut.toNat)) := by unfold Hid doTo; rw [if_neg (by simp)]
        by_cases hlt : (k : Int) < xs.length
        · have hct := hgd hlt
          go_wp2
          refine bodyPost_ret (v := .agg #[.slice A 4 c, .slice D 6 d]) (by simp [results, Try.results83, go_sem, b0, b1, q0, q1]) rfl ⟨rfl, ?_, ?_⟩
          · rw [h3.out]
            have hbb : Below w.heap.size wr ((wr.setCell ⟨w.heap.size + 1, 0, none⟩ (.slice A 4 c)).setCell ⟨w.heap.size + 1, 1, none⟩ (.slice D 6 d)) := by (repeat (first | (with_reducible exact Below.refl _ _) | (with_reducible assumption) | (refine Below.setCell ?_ (by first | omega | exact hB.size | exact hb.size | (have h := hB.size; simp; omega) | (have h := hb.size; simp; omega) | (simp; omega) | simp) _) | (refine Below.alloc ?_ (by first | omega | exact hB.size | exact hb.size | (have h := hB.size; simp; omega) | (have h := hb.size; simp; omega) | (simp; omega) | simp) _) | (refine Below.drew ?_)))
            exact hOk.keep fun y _ h2 _ => hbb.block y (by omega)
          · exact (hA.setCell (.inl (by show w.heap.size ≤ w.heap.size + 1; omega)) _).setCell (.inl (by show w.heap.size ≤ w.heap.size + 1; omega)) _
        · go_wp2
          refine bodyPost_ret (v := .agg #[.slice A 4 c, .slice D 6 d]) (by simp [results, Try.results83, go_sem, b0, b1, q0, q1]) rfl ⟨rfl, ?_, ?_⟩
          · rw [h3.out]
            have hbb : Below w.heap.size wr ((wr.setCell ⟨w.heap.size + 1, 0, none⟩ (.slice A 4 c)).setCell ⟨w.heap.size + 1, 1, none⟩ (.slice D 6 d)) := by (repeat (first | (with_reducible exact Below.refl _ _) | (with_reducible assumption) | (refine Below.setCell ?_ (by first | omega | exact hB.size | exact hb.size | (have h := hB.size; simp; omega) | (have h := hb.size; simp; omega) | (simp; omega) | simp) _) | (refine Below.alloc ?_ (by first | omega | exact hB.size | exact hb.size | (have h := hB.size; simp; omega) | (have h := hb.size; simp; omega) | (simp; omega) | simp) _) | (refine Below.drew ?_)))
            exact hOk.keep fun y _ h2 _ => hbb.block y (by omega)
          · exact (hA.setCell (.inl (by show w.heap.size ≤ w.heap.size + 1; omega)) _).setCell (.inl (by show w.heap.size ≤ w.heap.size + 1; omega)) _
      · have h3n : ¬ (0 ≤ cut ∧ cut < xs.length) → Hid (doTo s xs cut true = doAllOf s (xs.take cut.toNat)) := by intro h; unfold Hid doTo; rw [if_neg (by simpa using h)]
        have h3p : (0 ≤ cut ∧ cut < xs.length) → Hid (doTo s xs cut true = doStep (doAllOf s (xs.take cut.toNat)) (xs.getD cut.toNat ⟨0, 0, 0, 0, rc0⟩) true) := by intro h; unfold Hid doTo; rw [if_pos (by simpa using h)]
        by_cases hlt : (k : Int) < xs.length
        · have hct := hgd hlt
          by_cases h0 : 0 ≤ cut
          · obtain rfl : cut = k := by omega
            have hst := doAllOf_fine (xs := xs.take (k : Int).toNat) HS.out (fun y hy => HX.out y (List.mem_of_mem_take hy))
            obtain ⟨x, hxk⟩ := get_some (l := xs) (k := k) (by omega)
            have hxf := HX.out x (List.mem_of_getElem? hxk)
            have hXk := hX.agr hA HV.out
            obtain ⟨vb, vo, rfl⟩ := hXk.addr (by intro e; have := sps_len xs; rw [e] at this; simp at this; omega)
            obtain ⟨c0, c1, c2, c3, c4, c5, c6, c7⟩ := hXk.sp hxk
            have h3 : Hid (doTo s xs k true = doStep (doAllOf s (xs.take (k : Int).toNat)) x true) := by
              rw [Hid, (h3p ⟨by omega, by omega⟩).out, Int.toNat_natCast, List.getD_eq_getElem?_getD, hxk]; rfl
            have hk0 : (0 : Int) ≤ k := by omega
            have hk1 : (k : Int) ≤ xs.length - 1 := by omega
            clear h3p h3n hxk hXk hgd
            go_wp2_with fail
            refine (spec_l6In _ _ _ _).mono ?_
            rintro e w1 ⟨rfl, rfl⟩
            rw [show (decide ((0 : Int) ≤ k) && decide ((k : Int) ≤ xs.length - 1)) = true from by simp [hk0, hk1]]
            go_wp2
            have hle : hi ≤ wr.drew.heap.size := by show hi ≤ wr.heap.size; omega
            have hn0 : ¬ (lo ≤ w.heap.size ∧ w.heap.size < hi) := by omega
            have hl0 : w.heap.size < wr.drew.heap.size := by show w.heap.size < wr.heap.size; omega
            have hOd := hOk.drew
            have g0 : wr.drew.cell? ⟨w.heap.size, 0, none⟩ = some (.slice A 4 c) := b0
            have g1 : wr.drew.cell? ⟨w.heap.size, 1, none⟩ = some (.slice D 6 d) := b1
            have g2 : wr.drew.frozen? ⟨w.heap.size, 0, none⟩ = false := b2
            have g3 : wr.drew.frozen? ⟨w.heap.size, 1, none⟩ = false := b3
            go_region_with (first | (go_at_call 134; refine (spec_l12Do (doAllOf s (xs.take (k : Int).toNat)) x true A D c d lo hi _ hst hxf hle hOd).mono ?_; rintro e w1 ⟨rfl, hO1, hA1⟩; have d0 := (hA1.cell hl0 hn0 0).trans g0; have d1 := (hA1.cell hl0 hn0 1).trans g1; have d2 := (hA1.fz hl0 hn0 0).trans g2; have d3 := (hA1.fz hl0 hn0 1).trans g3))
            all_goals
              have hn1 : ¬ (lo ≤ w.heap.size + 1 ∧ w.heap.size + 1 < hi) := by omega
              have hl1 : w.heap.size + 1 < wr.drew.heap.size := hsz
              have r0 := (hA1.cell hl1 hn1 0).trans (show wr.drew.cell? ⟨w.heap.size + 1, 0, none⟩ = some u0 from q0)
              have r1 := (hA1.cell hl1 hn1 1).trans (show wr.drew.cell? ⟨w.heap.size + 1, 1, none⟩ = some u1 from q1)
              have r2 := (hA1.fz hl1 hn1 0).trans (show wr.drew.frozen? ⟨w.heap.size + 1, 0, none⟩ = false from q2)
              have r3 := (hA1.fz hl1 hn1 1).trans (show wr.drew.frozen? ⟨w.heap.size + 1, 1, none⟩ = false from q3)
              have hA2 := hA.drew.trans hA1 (fun b _ hb => hb)
              have hs1 : wr.heap.size ≤ w1.heap.size := hA1.size
              have hW : Wrote w1 ((w1.setCell ⟨w.heap.size, 0, none⟩ (.slice A 4 c)).setCell ⟨w.heap.size, 1, none⟩ (.slice D 6 d)) w.heap.size 0 [.slice A 4 c, .slice D 6 d] := wrote_setRow w.heap.size [.slice A 4 c, .slice D 6 d] 0 w1 (fun j hj => by
                match j, hj with
                | 0, _ => exact ⟨_, d0⟩
                | 1, _ => exact ⟨_, d1⟩)
              have hO3 : OSt _ lo hi A (doStep (doAllOf s (xs.take (k : Int).toNat)) x true).flash D (doStep (doAllOf s (xs.take (k : Int).toNat)) x true).disk := hO1.keep fun b h1 h2 _ => hW.block b (by omega)
              have hA3 := hA2.trans (S' := (· = w.heap.size)) hW.agr (fun b hb e => by omega)
              have t0 := hW.new_ 0 _ rfl
              have t1 := hW.new_ 1 _ rfl
              have s0 := (hW.agr.cell (b := w.heap.size + 1) (by omega) (by omega) 0).trans r0
              have s1 := (hW.agr.cell (b := w.heap.size + 1) (by omega) (by omega) 1).trans r1
              have s2 := (hW.frozen ⟨w.heap.size + 1, 0, none⟩).trans r2
              have s3 := (hW.frozen ⟨w.heap.size + 1, 1, none⟩).trans r3
              have hss := hW.size
              clear hW
              go_wp2
              refine bodyPost_ret (v := .agg #[.slice A 4 c, .slice D 6 d]) (by simp [results, Try.results83, go_sem, t0, t1, s0, s1]) rfl ⟨rfl, ?_, ?_⟩
              · rw [h3.out]
                refine hO3.keep fun y _ h2 _ => ?_
                rw [Below.heap_setCell _ _ _ _ (by show y ≠ w.heap.size + 1; omega), Below.heap_setCell _ _ _ _ (by show y ≠ w.heap.size + 1; omega)]
              · exact (hA3.setCell (.inl (by show w.heap.size ≤ w.heap.size + 1; omega)) _).setCell (.inl (by show w.heap.size ≤ w.heap.size + 1; omega)) _
          · have h3 := h3n (by omega)
            have e0 : decide (0 ≤ cut) = false := by simpa using h0
            go_wp2_with fail
            refine (spec_l6In _ _ _ _).mono ?_
            rintro e w1 ⟨rfl, rfl⟩
            rw [e0, Bool.false_and]
            go_wp2
            refine bodyPost_ret (v := .agg #[.slice A 4 c, .slice D 6 d]) (by simp [results, Try.results83, go_sem, b0, b1, q0, q1]) rfl ⟨rfl, ?_, ?_⟩
            · rw [h3.out]
              have hbb : Below w.heap.size wr ((wr.setCell ⟨w.heap.size + 1, 0, none⟩ (.slice A 4 c)).setCell ⟨w.heap.size + 1, 1, none⟩ (.slice D 6 d)) := by (repeat (first | (with_reducible exact Below.refl _ _) | (with_reducible assumption) | (refine Below.setCell ?_ (by first | omega | exact hB.size | exact hb.size | (have h := hB.size; simp; omega) | (have h := hb.size; simp; omega) | (simp; omega) | simp) _) | (refine Below.alloc ?_ (by first | omega | exact hB.size | exact hb.size | (have h := hB.size; simp; omega) | (have h := hb.size; simp; omega) | (simp; omega) | simp) _) | (refine Below.drew ?_)))
              exact hOk.keep fun y _ h2 _ => hbb.block y (by omega)
            · exact (hA.setCell (.inl (by show w.heap.size ≤ w.heap.size + 1; omega)) _).setCell (.inl (by show w.heap.size ≤ w.heap.size + 1; omega)) _
        · have h3 := h3n (by omega)
          have e0 : (decide (0 ≤ cut) && decide (cut ≤ (xs.length : Int) - 1)) = false := by simp; omega
          go_wp2_with fail
          refine (spec_l6In _ _ _ _).mono ?_
          rintro e w1 ⟨rfl, rfl⟩
          rw [e0]
          go_wp2
          refine bodyPost_ret (v := .agg #[.slice A 4 c, .slice D 6 d]) (by simp [results, Try.results83, go_sem, b0, b1, q0, q1]) rfl ⟨rfl, ?_, ?_⟩
          · rw [h3.out]
            have hbb : Below w.heap.size wr ((wr.setCell ⟨w.heap.size + 1, 0, none⟩ (.slice A 4 c)).setCell ⟨w.heap.size + 1, 1, none⟩ (.slice D 6 d)) := by (repeat (first | (with_reducible exact Below.refl _ _) | (with_reducible assumption) | (refine Below.setCell ?_ (by first | omega | exact hB.size | exact hb.size | (have h := hB.size; simp; omega) | (have h := hb.size; simp; omega) | (simp; omega) | simp) _) | (refine Below.alloc ?_ (by first | omega | exact hB.size | exact hb.size | (have h := hB.size; simp; omega) | (have h := hb.size; simp; omega) | (simp; omega) | simp) _) | (refine Below.drew ?_)))
            exact hOk.keep fun y _ h2 _ => hbb.block y (by omega)
          · exact (hA.setCell (.inl (by show w.heap.size ≤ w.heap.size + 1; omega)) _).setCell (.inl (by show w.heap.size ≤ w.heap.size + 1; omega)) _
end Go.Proofs.Ytbekihiiildgmaa
namespace Go.Proofs.Ytbekihiiildgmaa
set_option linter.unusedVariables false
set_option linter.unusedSimpArgs false
open Go.RowKit Go.Maps
set_option maxHeartbeats 400000
theorem stFine_pages {s : St} (h : stFine s) : ∀ b ∈ s.flash, b.pages.length = 4 := fun b hb => (h.1.2 b hb).1
end Go.Proofs.Ytbekihiiildgmaa
namespace Go.Proofs.Ytbekihiiildgmaa
set_option linter.unusedVariables false
set_option linter.unusedSimpArgs false
open Go.RowKit Go.Maps
set_option maxHeartbeats 400000
end Go.Proofs.Ytbekihiiildgmaa
namespace Go.Proofs.Ytbekihiiildgmaa
set_option linter.unusedVariables false
set_option linter.unusedSimpArgs false
open Go.RowKit Go.Maps
set_option maxHeartbeats 400000
end Go.Proofs.Ytbekihiiildgmaa
namespace Go.Proofs.Ytbekihiiildgmaa
set_option linter.unusedVariables false
set_option linter.unusedSimpArgs false
open Go.RowKit Go.Maps
set_option maxHeartbeats 400000
end Go.Proofs.Ytbekihiiildgmaa
namespace Go.Proofs.Ytbekihiiildgmaa
set_option linter.unusedVariables false
set_option linter.unusedSimpArgs false
open Go.RowKit Go.Maps
set_option maxHeartbeats 400000
/-- a row of events of one's own, in a block from base on -/
def OwnE (w : World) (base : Nat) (v : Value) (xs : List Ev) : Prop := w.ownsRow base 28 5 v xs.length (evs xs)
theorem OwnE.below {w w' : World} {base B : Nat} {v : Value} {xs : List Ev} (h : OwnE w base v xs) (hb : Below B w w') (hB : w.heap.size ≤ B) : OwnE w' base v xs := ownsRow_keep h fun b _ hl => hb.block b (by omega)
theorem OwnE.agr {w w' : World} {base : Nat} {v : Value} {xs : List Ev} {S : Nat → Prop} (h : OwnE w base v xs) (hb : Agr S w w') (hS : ∀ b, base ≤ b → ¬ S b) : OwnE w' base v xs := by
  refine ownsRow_keep h fun b hbl hl => hb.block b hl (hS b ?_)
  exact (World.ownsRow.lt h b hbl).1
theorem OwnE.mono {w : World} {base base' : Nat} {v : Value} {xs : List Ev} (h : OwnE w base v xs) (hb : base' ≤ base) : OwnE w base' v xs := World.ownsRow.mono h hb
theorem OwnE.nil (w : World) (base : Nat) (hb : base ≤ w.heap.size) : OwnE (w.alloc (.cells #[] 28)) base (.slice (some ⟨w.heap.size, 0, none⟩) 0 0) [] := World.ownsRow_lit w #[] 0 hb (by unfold maxLen; omega) rfl
theorem OwnE.snoc {w : World} {base g n c : Nat} {xs : List Ev} {x : Ev} (hn : n = xs.length + 1) (h : w.ownsRow base 28 5 (.slice (some ⟨g, 0, none⟩) (xs.length + 1) c) (xs.length + 1) (evs xs ++ x.vs)) : OwnE w base (.slice (some ⟨g, 0, none⟩) n c) (xs ++ [x]) := by
  subst hn
  unfold OwnE
  rw [List.length_append, evs, List.flatMap_append, show [x].flatMap Ev.vs = x.vs by simp]
  exact h
theorem OwnE.alloc {w : World} {base : Nat} {v : Value} {xs : List Ev} (h : OwnE w base v xs) (o : Obj) : OwnE (w.alloc o) base v xs := h.below (B := w.heap.size) ((Below.refl _ _).alloc (Nat.le_refl _) _) (Nat.le_refl _)
end Go.Proofs.Ytbekihiiildgmaa
namespace Go.Proofs.Ytbekihiiildgmaa
set_option linter.unusedVariables false
set_option linter.unusedSimpArgs false
open Go.RowKit Go.Maps
set_option maxHeartbeats 400000
theorem Row.drop {w : World} {b o : Nat} {vs : List Value} (h : Row w (some ⟨b, o, none⟩) vs) (k : Nat) : Row w (some ⟨b, o + k, none⟩) (vs.drop k) := fun hn => by
  obtain ⟨b', o', he, hc⟩ := h (by rintro rfl; simp at hn)
  cases he
  refine ⟨b, o + k, rfl, fun j u hj => ?_⟩
  rw [List.getElem?_drop] at hj
  have := hc (k + j) u hj
  rwa [← Nat.add_assoc] at this
/-- block i's pages lie in the same block of memory as before -/
theorem Apt.same {lo hi i : Nat} {A : Option Addr} {hs : List (Option Addr × Nat)} {x y : Option Addr × Nat} (h : Apt lo hi A hs) (hy : hs[i]? = some y) (hx : ∀ b, blk x.1 b → blk y.1 b) : Apt lo hi A (hs.set i x) := by
  have hl := (List.getElem?_eq_some_iff.1 hy).1
  have key : ∀ (j : Nat) (z : Option Addr × Nat) (b : Nat), (hs.set i x)[j]? = some z → blk z.1 b → ∃ z', hs[j]? = some z' ∧ blk z'.1 b := fun j z b hz hb => by
    by_cases hj : j = i
    · subst hj
      rw [List.getElem?_set_self hl] at hz
      cases hz
      exact ⟨y, hy, hx b hb⟩
    · rw [List.getElem?_set_ne (by omega)] at hz
      exact ⟨z, hz, hb⟩
  refine ⟨h.top, fun j z b hz hb => ?_, fun j m z u b hz hu h1 h2 => ?_⟩
  · obtain ⟨z', a1, a2⟩ := key j z b hz hb
    exact h.in_ j z' b a1 a2
  · obtain ⟨z', a1, a2⟩ := key j z b hz h1
    obtain ⟨u', b1, b2⟩ := key m u b hu h2
    exact h.two j m z' u' b a1 b1 a2 b2
theorem Bks.reader {w w' : World} {A : Option Addr} {f : List Bk} {hs : List (Option Addr × Nat)} {R lo hi : Nat} (h : Bks w A f hs) (ha : Agr (· = R) w w') (hApt : Apt lo hi A hs) (hR : R < lo) : Bks w' A f hs :=
  h.keep fun b hb hl => ha.block b hl (fun e => by
    subst e
    rcases hb with hb | ⟨x, hx, hb⟩
    · have := hApt.top _ hb; omega
    · obtain ⟨i, hi'⟩ := List.getElem?_of_mem hx
      have := hApt.in_ i x _ hi' hb; omega)
end Go.Proofs.Ytbekihiiildgmaa
namespace Go.Proofs.Ytbekihiiildgmaa
set_option linter.unusedVariables false
set_option linter.unusedSimpArgs false
open Go.RowKit Go.Maps
set_option maxHeartbeats 400000
/-- a code that can be read -/
structure Code (w : World) (A : Option Addr) (bs : List Nat) (c : Nat) : Prop where
  len : bs.length ≤ c
  cap : c ≤ 9223372036854775807
  byte : ∀ b ∈ bs, b < 256
  row : RRow w A (bytes bs)
end Go.Proofs.Ytbekihiiildgmaa
namespace Go.Proofs.Ytbekihiiildgmaa
set_option linter.unusedVariables false
set_option linter.unusedSimpArgs false
open Go.RowKit Go.Maps
set_option maxHeartbeats 400000
end Go.Proofs.Ytbekihiiildgmaa
namespace Go.Proofs.Ytbekihiiildgmaa
set_option linter.unusedVariables false
set_option linter.unusedSimpArgs false
open Go.RowKit Go.Maps
set_option maxHeartbeats 400000
theorem wiped_b {f : List Bk} {i : Nat} {b : Bk} (h : f[i]? = some b) (t : Bool) : (wipe f i t)[i]? = some ⟨List.replicate 4 (if t then ⟨2, rc0⟩ else pg0), b.worn + 1⟩ := by
  rw [wipe_at (List.getElem?_eq_some_iff.1 h).1 t, List.getD_eq_getElem?_getD, h]; rfl
theorem getD_of {f : List Bk} {i : Nat} {b : Bk} (h : f[i]? = some b) : f.getD i zbk = b := by rw [List.getD_eq_getElem?_getD, h]; rfl
end Go.Proofs.Ytbekihiiildgmaa
namespace Go.Proofs.Ytbekihiiildgmaa
set_option linter.unusedVariables false
set_option linter.unusedSimpArgs false
open Go.RowKit Go.Maps
set_option maxHeartbeats 400000
theorem flFine_of {f : List Bk} (h : flashOk f = true) : flFine f := by
  have h2 := blocksGo_true (f := f) (seen := []) (by unfold flashOk at h; simp at h; exact h.2)
  exact ⟨flashOk_len h, fun b hb => ⟨(flashOk_shape h b hb).1, (flashOk_shape h b hb).2.1, (flashOk_shape h b hb).2.2, (h2 b hb).2⟩⟩
theorem clean_seq {p : Pg} (h : pageOk p = true) (h1 : p.state ≠ 1) : p.rc.seq = 0 := by
  unfold pageOk at h
  rw [if_neg h1] at h
  split at h
  · have : p.rc = rc0 := by simpa using h
    rw [this]; rfl
  · cases h
end Go.Proofs.Ytbekihiiildgmaa
namespace Go.Proofs.Ytbekihiiildgmaa
set_option linter.unusedVariables false
set_option linter.unusedSimpArgs false
theorem mem_seqsP {q : Int} {ps : List Pg} : q ∈ seqsP ps ↔ ∃ p ∈ ps, p.state = 1 ∧ p.rc.seq = q := by
  unfold seqsP
  rw [List.mem_map]
  constructor
  · rintro ⟨p, hp, rfl⟩
    rw [List.mem_filter] at hp
    exact ⟨p, hp.1, by simpa using hp.2, rfl⟩
  · rintro ⟨p, hp, h1, rfl⟩
    exact ⟨p, List.mem_filter.2 ⟨hp, by simpa using h1⟩, rfl⟩
theorem mem_seqsF {q : Int} {f : List Bk} : q ∈ seqsF f ↔ ∃ b ∈ f, q ∈ seqsP b.pages := by unfold seqsF; rw [List.mem_flatMap]
theorem seqIn_iff {f : List Bk} {s : Int} : seqIn f s = true ↔ s ∈ seqsF f := by
  rw [mem_seqsF]
  unfold seqIn
  rw [List.any_eq_true]
  constructor
  · rintro ⟨b, hb, h⟩
    rw [List.any_eq_true] at h
    obtain ⟨p, hp, h⟩ := h
    unfold hasSeq at h
    rw [Bool.and_eq_true, decide_eq_true_iff, decide_eq_true_iff] at h
    exact ⟨b, hb, mem_seqsP.2 ⟨p, hp, h.1, h.2⟩⟩
  · rintro ⟨b, hb, h⟩
    obtain ⟨p, hp, h1, h2⟩ := mem_seqsP.1 h
    refine ⟨b, hb, List.any_eq_true.2 ⟨p, hp, ?_⟩⟩
    unfold hasSeq
    rw [Bool.and_eq_true, decide_eq_true_iff, decide_eq_true_iff]
    exact ⟨h1, h2⟩
/-- two blocks' numbers are apart -/
theorem seqs_apart : ∀ {f : List Bk}, (seqsF f).Nodup → ∀ {i j : Nat} {a b : Bk} {q : Int}, i ≠ j → f[i]? = some a → f[j]? = some b → q ∈ seqsP a.pages → q ∉ seqsP b.pages
  | [], _, i, j, a, b, q, _, h1, _, _ => by simp at h1
  | c :: f, hn, i, j, a, b, q, hij, h1, h2, hq => by
    rw [show seqsF (c :: f) = seqsP c.pages ++ seqsF f from by simp [seqsF], List.nodup_append] at hn
    obtain ⟨n1, n2, n3⟩ := hn
    intro hq2
    cases i with
    | zero =>
      rw [List.getElem?_cons_zero, Option.some.injEq] at h1
      subst h1
      cases j with
      | zero => exact hij rfl
      | succ j =>
        rw [List.getElem?_cons_succ] at h2
        exact n3 q hq q (mem_seqsF.2 ⟨b, List.mem_of_getElem? h2, hq2⟩) rfl
    | succ i =>
      rw [List.getElem?_cons_succ] at h1
      cases j with
      | zero =>
        rw [List.getElem?_cons_zero, Option.some.injEq] at h2
        subst h2
        exact n3 q hq2 q (mem_seqsF.2 ⟨a, List.mem_of_getElem? h1, hq⟩) rfl
      | succ j =>
        rw [List.getElem?_cons_succ] at h2
        exact seqs_apart n2 (fun e => hij (by rw [e])) h1 h2 hq hq2
theorem mostPs_spec : ∀ (ps : List Pg) (n : Int), (∀ p ∈ ps, pageOk p = true) → 0 ≤ n → n ≤ mostPs n ps ∧ (∀ q ∈ seqsP ps, q ≤ mostPs n ps) ∧ (mostPs n ps = n ∨ mostPs n ps ∈ seqsP ps)
  | [], n, _, _ => ⟨by unfold mostPs; simp, fun q h => by simp [seqsP] at h, .inl rfl⟩
  | p :: ps, n, hp, h => by
    have ho := hp p (List.mem_cons_self ..)
    obtain ⟨i1, i2, i3⟩ := mostPs_spec ps (max n p.rc.seq) (fun q hq => hp q (List.mem_cons_of_mem _ hq)) (by omega)
    have he : mostPs n (p :: ps) = mostPs (max n p.rc.seq) ps := rfl
    rw [he, seqsP_cons]
    by_cases h1 : p.state = 1
    · rw [if_pos h1]
      refine ⟨by omega, fun q hq => ?_, ?_⟩
      · rcases List.mem_cons.1 hq with rfl | hq
        · omega
        · exact i2 q hq
      · rcases i3 with i3 | i3
        · rw [i3]
          by_cases hm : n ≤ p.rc.seq
          · right; rw [show max n p.rc.seq = p.rc.seq by omega]; exact List.mem_cons_self ..
          · left; omega
        · exact .inr (List.mem_cons_of_mem _ i3)
    · rw [if_neg h1]
      have := clean_seq ho h1
      rw [show max n p.rc.seq = n by omega] at *
      exact ⟨i1, i2, i3⟩
theorem seq_pos {ps : List Pg} (hp : ∀ p ∈ ps, pageOk p = true) {q : Int} (hq : q ∈ seqsP ps) : 1 ≤ q ∧ q ≤ 600 := by
  obtain ⟨p, h, h1, rfl⟩ := mem_seqsP.1 hq
  have := recOk_addr (rec_of_written (hp p h) h1)
  omega
theorem leastPs_spec : ∀ (ps : List Pg) (n : Int), (∀ p ∈ ps, pageOk p = true) → 0 ≤ n →
    (ps.foldl leastStep n = n ∧ (n = 0 → seqsP ps = []) ∨ ps.foldl leastStep n ∈ seqsP ps) ∧ (∀ q ∈ seqsP ps, ps.foldl leastStep n ≤ q) ∧ (0 < n → 0 < ps.foldl leastStep n ∧ ps.foldl leastStep n ≤ n) ∧ 0 ≤ ps.foldl leastStep n
  | [], n, _, h => ⟨.inl ⟨rfl, fun _ => rfl⟩, fun q hq => by simp [seqsP] at hq, fun h => ⟨h, Int.le_refl _⟩, h⟩
  | p :: ps, n, hp, h => by
    have ho := hp p (List.mem_cons_self ..)
    have hps := fun q hq => hp q (List.mem_cons_of_mem _ hq)
    rw [List.foldl_cons, seqsP_cons]
    by_cases h1 : p.state = 1
    · have hr := recOk_addr (rec_of_written ho h1)
      rw [if_pos h1]
      unfold leastStep
      by_cases hc : 0 < p.rc.seq ∧ (n = 0 ∨ p.rc.seq < n)
      · rw [if_pos hc]
        obtain ⟨i1, i2, i3, i4⟩ := leastPs_spec ps p.rc.seq hps (by omega)
        have i5 := i3 (by omega)
        unfold leastStep at *
        refine ⟨.inr ?_, fun q hq => ?_, fun h0 => ⟨i5.1, by omega⟩, i4⟩
        · rcases i1 with ⟨i1, _⟩ | i1
          · rw [i1]; exact List.mem_cons_self ..
          · exact List.mem_cons_of_mem _ i1
        · rcases List.mem_cons.1 hq with rfl | hq
          · exact i5.2
          · exact i2 q hq
      · rw [if_neg hc]
        obtain ⟨i1, i2, i3, i4⟩ := leastPs_spec ps n hps h
        have h0 : 0 < n := by
          by_cases h0 : 0 < n
          · exact h0
          · exact absurd ⟨by omega, .inl (by omega)⟩ hc
        have i5 := i3 h0
        unfold leastStep at *
        refine ⟨?_, fun q hq => ?_, i3, i4⟩
        · rcases i1 with ⟨i1, _⟩ | i1
          · exact .inl ⟨i1, fun e => by omega⟩
          · exact .inr (List.mem_cons_of_mem _ i1)
        · rcases List.mem_cons.1 hq with rfl | hq
          · have : ¬ p.rc.seq < n := fun e => hc ⟨by omega, .inr e⟩
            omega
          · exact i2 q hq
    · rw [if_neg h1]
      have h0 := clean_seq ho h1
      have : leastStep n p = n := by unfold leastStep; rw [if_neg (by rintro ⟨h, _⟩; omega)]
      rw [this]
      exact leastPs_spec ps n hps h
/-- the greatest and the least number of a block -/
theorem most_le {b : Bk} (hp : ∀ p ∈ b.pages, pageOk p = true) {q : Int} (hq : q ∈ seqsP b.pages) : q ≤ most b := (mostPs_spec b.pages 0 hp (Int.le_refl _)).2.1 q hq
theorem most_mem {b : Bk} (hp : ∀ p ∈ b.pages, pageOk p = true) (h : 0 < most b) : most b ∈ seqsP b.pages := by
  rcases (mostPs_spec b.pages 0 hp (Int.le_refl _)).2.2 with h1 | h1
  · have : most b = 0 := h1
    omega
  · exact h1
theorem most_nn {b : Bk} (hp : ∀ p ∈ b.pages, pageOk p = true) : 0 ≤ most b := (mostPs_spec b.pages 0 hp (Int.le_refl _)).1
theorem least_le {b : Bk} (hp : ∀ p ∈ b.pages, pageOk p = true) {q : Int} (hq : q ∈ seqsP b.pages) : least b ≤ q := (leastPs_spec b.pages 0 hp (Int.le_refl _)).2.1 q hq
theorem least_mem {b : Bk} (hp : ∀ p ∈ b.pages, pageOk p = true) (h : 0 < most b) : least b ∈ seqsP b.pages := by
  have hm := most_mem hp h
  rcases (leastPs_spec b.pages 0 hp (Int.le_refl _)).1 with ⟨_, h2⟩ | h2
  · rw [h2 rfl] at hm; cases hm
  · exact h2
theorem least_most {b : Bk} (hp : ∀ p ∈ b.pages, pageOk p = true) (h : 0 < most b) : 0 < least b ∧ least b ≤ most b :=
  ⟨by have := seq_pos hp (least_mem hp h); omega, most_le hp (least_mem hp h)⟩
theorem most_none {b : Bk} (hp : ∀ p ∈ b.pages, pageOk p = true) (h : seqsP b.pages = []) : most b = 0 := by
  have h0 := most_nn hp
  by_cases hm : 0 < most b
  · have := most_mem hp hm
    rw [h] at this; cases this
  · omega
/-! ### a page written -/
theorem four {α : Type} {l : List α} (h : l.length = 4) : ∃ a b c d, l = [a, b, c, d] := by
  match l, h with
  | [a, b, c, d], _ => exact ⟨a, b, c, d, rfl⟩
theorem shape_put {ps : List Pg} (h4 : ps.length = 4) (hs : shapeGo false ps = true) {q : Pg} (hq : q.state ≠ 0) (hc : ps.countP isClean ≠ 0) :
    shapeGo false (ps.set (4 - ps.countP isClean) q) = true ∧ (∃ p, ps[4 - ps.countP isClean]? = some p ∧ p.state = 0) ∧ (ps.set (4 - ps.countP isClean) q).countP isClean + 1 = ps.countP isClean := by
  obtain ⟨a, b, c, d, rfl⟩ := four h4
  by_cases ha : a.state = 0 <;> by_cases hb : b.state = 0 <;> by_cases hc' : c.state = 0 <;> by_cases hd : d.state = 0 <;>
    simp [shapeGo, isClean, List.countP_cons, ha, hb, hc', hd, hq] at hs hc ⊢
theorem seqsP_put : ∀ (ps : List Pg) (k : Nat) (p q : Pg), ps[k]? = some p → p.state ≠ 1 → q.state = 1 → (seqsP (ps.set k q)).Perm (q.rc.seq :: seqsP ps)
  | [], k, p, q, h, _, _ => by simp at h
  | a :: ps, 0, p, q, h, h1, hq => by
    rw [List.getElem?_cons_zero, Option.some.injEq] at h
    subst h
    rw [List.set_cons_zero, seqsP_cons, seqsP_cons, if_pos hq, if_neg h1]
  | a :: ps, k + 1, p, q, h, h1, hq => by
    rw [List.getElem?_cons_succ] at h
    have ih := seqsP_put ps k p q h h1 hq
    rw [List.set_cons_succ, seqsP_cons, seqsP_cons]
    split
    · exact (ih.cons _).trans (List.Perm.swap _ _ _)
    · exact ih
theorem seqsP_torn : ∀ (ps : List Pg) (k : Nat) (p q : Pg), ps[k]? = some p → p.state ≠ 1 → q.state ≠ 1 → seqsP (ps.set k q) = seqsP ps
  | [], k, p, q, h, _, _ => by simp at h
  | a :: ps, 0, p, q, h, h1, hq => by
    rw [List.getElem?_cons_zero, Option.some.injEq] at h
    subst h
    rw [List.set_cons_zero, seqsP_cons, seqsP_cons, if_neg hq, if_neg h1]
  | a :: ps, k + 1, p, q, h, h1, hq => by
    rw [List.getElem?_cons_succ] at h
    have ih := seqsP_torn ps k p q h h1 hq
    rw [List.set_cons_succ, seqsP_cons, seqsP_cons, ih]
theorem seqsF_put : ∀ (f : List Bk) (i : Nat) (b c : Bk) (xs : List Int), f[i]? = some b → (seqsP c.pages).Perm (xs ++ seqsP b.pages) → (seqsF (f.set i c)).Perm (xs ++ seqsF f)
  | [], i, b, c, xs, h, _ => by simp at h
  | a :: f, 0, b, c, xs, h, hc => by
    rw [List.getElem?_cons_zero, Option.some.injEq] at h
    subst h
    rw [List.set_cons_zero, show seqsF (c :: f) = seqsP c.pages ++ seqsF f from by simp [seqsF], show seqsF (a :: f) = seqsP a.pages ++ seqsF f from by simp [seqsF], ← List.append_assoc]
    exact hc.append_right _
  | a :: f, i + 1, b, c, xs, h, hc => by
    rw [List.getElem?_cons_succ] at h
    have ih := seqsF_put f i b c xs h hc
    rw [List.set_cons_succ, show seqsF (a :: f.set i c) = seqsP a.pages ++ seqsF (f.set i c) from by simp [seqsF], show seqsF (a :: f) = seqsP a.pages ++ seqsF f from by simp [seqsF]]
    refine (ih.append_left _).trans ?_
    rw [← List.append_assoc, ← List.append_assoc]
    exact List.perm_append_comm.append_right _
/-- the page that a record leaves -/
def putPg (r : Rc) (torn : Bool) : Pg := if torn then ⟨2, rc0⟩ else ⟨1, r⟩
def putBk (b : Bk) (r : Rc) (torn : Bool) : Bk := { b with pages := b.pages.set (4 - clean b) (putPg r torn) }
theorem putPg_ok {r : Rc} (h : recOk r = true) (torn : Bool) : pageOk (putPg r torn) = true ∧ (putPg r torn).state ≠ 0 := by
  cases torn
  · exact ⟨put_ok h, by show (1 : Int) ≠ 0; decide⟩
  · exact ⟨torn_ok, by show (2 : Int) ≠ 0; decide⟩
theorem bk_parts {f : List Bk} (h : flashOk f = true) {b : Bk} (hb : b ∈ f) : b.pages.length = 4 ∧ (0 ≤ b.worn ∧ b.worn ≤ 200) ∧ shapeGo false b.pages = true ∧ ∀ p ∈ b.pages, pageOk p = true := by
  obtain ⟨h1, h2⟩ := ((flashOk_iff f).1 h).2.1 b hb
  unfold blockShape at h1
  rw [Bool.and_eq_true, Bool.and_eq_true, Bool.and_eq_true, decide_eq_true_iff, decide_eq_true_iff, decide_eq_true_iff] at h1
  exact ⟨h1.1, ⟨h1.2.1, h1.2.2.1⟩, h1.2.2.2, h2⟩
theorem putBk_parts {f : List Bk} (h : flashOk f = true) {b : Bk} (hb : b ∈ f) {r : Rc} (hr : recOk r = true) (torn : Bool) (hc : clean b ≠ 0) :
    blockShape (putBk b r torn) = true ∧ (∀ p ∈ (putBk b r torn).pages, pageOk p = true) ∧ clean (putBk b r torn) + 1 = clean b ∧
    (torn = true → seqsP (putBk b r torn).pages = seqsP b.pages) ∧ (torn = false → (seqsP (putBk b r torn).pages).Perm ([r.seq] ++ seqsP b.pages)) := by
  obtain ⟨h1, h2, h3, h4⟩ := bk_parts h hb
  obtain ⟨p1, p2⟩ := putPg_ok hr torn
  obtain ⟨s1, ⟨p, hp, hp0⟩, s3⟩ := shape_put h1 h3 p2 hc
  refine ⟨?_, fun q hq => ?_, s3, ?_, ?_⟩
  · unfold blockShape putBk
    rw [Bool.and_eq_true, Bool.and_eq_true, Bool.and_eq_true, decide_eq_true_iff, decide_eq_true_iff, decide_eq_true_iff]
    exact ⟨by rw [List.length_set]; exact h1, h2.1, h2.2, s1⟩
  · rcases List.mem_or_eq_of_mem_set hq with hq | rfl
    · exact h4 q hq
    · exact p1
  · rintro rfl
    exact seqsP_torn _ _ p _ hp (by omega) (by show (2 : Int) ≠ 1; decide)
  · rintro rfl
    exact seqsP_put _ _ p _ hp (by omega) rfl
theorem put_ok4 {f : List Bk} (h : flashOk f = true) {i : Nat} {b : Bk} (hb : f[i]? = some b) {r : Rc} (hr : recOk r = true) (torn : Bool) (hc : clean b ≠ 0) (hs : seqIn f r.seq ≠ true) : flashOk (f.set i (putBk b r torn)) = true := by
  obtain ⟨k1, k2, _, k4, k5⟩ := putBk_parts h (List.mem_of_getElem? hb) hr torn hc
  replace hs : r.seq ∉ seqsF f := fun e => hs (seqIn_iff.2 e)
  rw [flashOk_iff] at h ⊢
  obtain ⟨a, b', c⟩ := h
  refine ⟨by simpa using a, fun x hx => ?_, ?_⟩
  · rcases List.mem_or_eq_of_mem_set hx with hx | rfl
    · exact b' x hx
    · exact ⟨k1, k2⟩
  · cases torn
    · exact (seqsF_put f i b _ [r.seq] hb (k5 rfl)).nodup_iff.2 (List.nodup_cons.2 ⟨hs, c⟩)
    · exact (seqsF_put f i b _ [] hb (by rw [k4 rfl]; exact List.Perm.refl _)).nodup_iff.2 c
end Go.Proofs.Ytbekihiiildgmaa
namespace Go.Proofs.Ytbekihiiildgmaa
set_option linter.unusedVariables false
set_option linter.unusedSimpArgs false
open Go.RowKit Go.Maps Go.Shelf
attribute [local go_sem] Oper.semAt_some
set_option maxHeartbeats 400000
def rcV (r : Rc) : Value := .agg #[.int .i64 r.kind, .int .i64 r.seq, .int .i64 r.addr, .int .i64 r.val]
def recD (r : Rc) : DataW Unit := .agg [.lit (.int .i64 r.kind), .lit (.int .i64 r.seq), .lit (.int .i64 r.addr), .lit (.int .i64 r.val)]
def recL : List Value → Option Rc
  | [.int .i64 a, .int .i64 b, .int .i64 c, .int .i64 d] => some ⟨a, b, c, d⟩
  | _ => none
def recElem (v : Value) : Option (DataW Unit × List MemPlace) := match v with
  | .agg cs => (recL cs.toList).map fun r => (recD r, [])
  | _ => none
theorem recElem_mk (r : Rc) : recElem (rcV r) = some (recD r, []) := rfl
theorem recL_inv {l : List Value} {r : Rc} (h : recL l = some r) : l = [.int .i64 r.kind, .int .i64 r.seq, .int .i64 r.addr, .int .i64 r.val] := by
  unfold recL at h
  split at h
  · cases h; rfl
  · cases h
theorem recD_inj {r s : Rc} (h : recD r = recD s) : r = s := by
  unfold recD at h
  cases r; cases s
  simp only [DataW.agg.injEq, List.cons.injEq, DataW.lit.injEq, Lit.int.injEq, true_and, and_true] at h
  obtain ⟨rfl, rfl, rfl, rfl⟩ := h
  rfl
theorem recElem_inv {v : Value} {r : Rc} {ps : List MemPlace} (h : recElem v = some (recD r, ps)) : v = rcV r := by
  unfold recElem at h
  cases v with
  | agg cs =>
    dsimp only at h
    cases hl : recL cs.toList with
    | none => rw [hl] at h; cases h
    | some s =>
      rw [hl] at h
      simp only [Option.map_some, Option.some.injEq, Prod.mk.injEq] at h
      have hr := recD_inj h.1
      subst hr
      have := recL_inv hl
      unfold rcV
      rw [← this]
  | _ => cases h
/-- block b is a map from int to records (type K of its keys) of at most n entries, that answers F -/
def RMap (P : Program) (K : TypeId) (w : World) (b n : Nat) (F : Int → Option Rc) : Prop :=
  ∃ D : DataW Unit, w.ownsMap P K recElem b n D ∧ IsMap D ∧ ∀ k, (Lit.int .i64 k).wf = true → D.atKey (.int .i64 k) (recD rc0) = recD ((F k).getD rc0) ∧ has D (.int .i64 k) = (F k).isSome
section
variable {P : Program} {t K E : TypeId} {w w' : World} {b n : Nat} {F : Int → Option Rc}
theorem RMap.made (P : Program) (K : TypeId) (w : World) : RMap P K (w.alloc (.map #[] 0)) w.heap.size 0 (fun _ => none) := ⟨_, World.ownsMap_made _ _ _ _, isMap_empty, fun k _ => ⟨rfl, rfl⟩⟩
theorem RMap.mono (h : RMap P K w b n F) {m : Nat} (hm : n ≤ m) : RMap P K w b m F := by
  obtain ⟨D, h1, h2⟩ := h; exact ⟨D, h1.mono hm, h2⟩
theorem RMap.lt (h : RMap P K w b n F) : b < w.heap.size := by obtain ⟨D, h1, _⟩ := h; exact h1.lt
theorem RMap.at_ (h : RMap P K w b n F) : ∃ es clock, w.heap[b]? = some (.map es clock) := by obtain ⟨D, ⟨es, clock, e, _⟩, _⟩ := h; exact ⟨es, clock, e⟩
theorem RMap.below {B : Nat} (h : RMap P K w b n F) (hb : Below B w w') (hB : b < B) : RMap P K w' b n F := by
  obtain ⟨D, ⟨es, clock, e, r⟩, h2⟩ := h
  exact ⟨D, ⟨es, clock, (hb.block b hB).trans e, r⟩, h2⟩
theorem RMap.kept {row : Option Nat} (h : RMap P K w b n F) (hg : w.grownBy w' row) (hne : some b ≠ row) : RMap P K w' b n F := by
  obtain ⟨D, h1, h2⟩ := h; exact ⟨D, h1.kept hg hne, h2⟩
theorem RMap.alloc (h : RMap P K w b n F) (o : Obj) : RMap P K (w.alloc o) b n F := by
  obtain ⟨D, h1, h2⟩ := h; exact ⟨D, h1.alloc o, h2⟩
theorem RMap.look (h : RMap P K w b n F) (ht : P.underlying t = some (.map K E)) (hK : P.underlying K = some (.int .i64)) (hz : ∀ w : World, (zeroValue E).run P w = .ok (rcV rc0) w) {k : Int} (hk : (Lit.int .i64 k).wf = true) :
    (Instr.lookup t (.map (some b)) (.int .i64 k) false).run P w = .ok (rcV ((F k).getD rc0)) w := by
  obtain ⟨D, h1, _, h3⟩ := h
  obtain ⟨v, ps, hrun, hv⟩ := h1.lookup (int_keyed hK) ht (hz w) (recElem_mk rc0) (keyOf_int_mk hK hk)
  rw [(h3 k hk).1] at hv
  rw [hrun, recElem_inv hv]
theorem RMap.look_ok (h : RMap P K w b n F) (ht : P.underlying t = some (.map K E)) (hK : P.underlying K = some (.int .i64)) (hz : ∀ w : World, (zeroValue E).run P w = .ok (rcV rc0) w) {k : Int} (hk : (Lit.int .i64 k).wf = true) :
    (Instr.lookup t (.map (some b)) (.int .i64 k) true).run P w = .ok (.tuple #[rcV ((F k).getD rc0), .bool (F k).isSome]) w := by
  obtain ⟨D, h1, _, h3⟩ := h
  obtain ⟨v, ps, hrun, hv⟩ := h1.look_ok (int_keyed hK) ht (hz w) (recElem_mk rc0) (keyOf_int_mk hK hk)
  rw [(h3 k hk).1] at hv
  rw [(h3 k hk).2] at hrun
  rw [hrun, recElem_inv hv]
theorem RMap.put (h : RMap P K w b n F) (ht : P.underlying t = some (.map K E)) (hK : P.underlying K = some (.int .i64)) (hn : n < maxLen) {k : Int} (r : Rc) (hk : (Lit.int .i64 k).wf = true) :
    ∃ w', (Instr.mapUpdate t (.map (some b)) (.int .i64 k) (rcV r)).run P w = .ok () w' ∧ RMap P K w' b (n + 1) (fun x => if x = k then some r else F x) ∧ w.grownBy w' (some b) := by
  obtain ⟨D, h1, h2, h3⟩ := h
  obtain ⟨w', hrun, g1, g2⟩ := h1.update (int_keyed hK) ht hn (keyOf_int_mk hK hk) (recElem_mk r)
  refine ⟨w', hrun, ⟨_, g1, h2.put _ _, fun x hx => ?_⟩, g2⟩
  dsimp only
  by_cases e : x = k
  · subst e
    rw [if_pos rfl, atKey_put_same h2 (isKeyLit_int _ hk), has_put_same h2 (isKeyLit_int _ hk)]
    exact ⟨rfl, rfl⟩
  · have hne : Lit.int .i64 x ≠ Lit.int .i64 k := by intro e'; injection e' with _ e''; exact e e''
    rw [if_neg e, atKey_put_other hne, has_put_other hne]
    exact h3 x hx
end
/-! ### what the program's map holds -/
def lmStep (F : Int → Option Rc) (x : PgAt) : Int → Option Rc :=
  if x.2.2.state = 1 ∧ ((F x.2.2.rc.addr).getD rc0).seq < x.2.2.rc.seq then fun a => if a = x.2.2.rc.addr then some x.2.2.rc else F a else F
def lastMap (pre : List PgAt) : Int → Option Rc := pre.foldl lmStep (fun _ => none)
theorem lastMap_snoc (pre : List PgAt) (x : PgAt) : lastMap (pre ++ [x]) = lmStep (lastMap pre) x := by unfold lastMap; rw [List.foldl_append]; rfl
def foundR (r : Rc) : Option Rc := if 0 < r.seq then some r else none
theorem foundR_getD {r : Rc} (h : r = rc0 ∨ 0 < r.seq) : (foundR r).getD rc0 = r := by
  unfold foundR
  split
  · rfl
  · rcases h with rfl | h
    · rfl
    · contradiction
theorem lm_step {F : Int → Option Rc} {o : Int → Rc} {x : PgAt} (hx : pageOk x.2.2 = true) (h : ∀ a, F a = foundR (o a)) (h0 : ∀ a, o a = rc0 ∨ 0 < (o a).seq) (a : Int) :
    lmStep F x a = foundR (lastStep a (o a) x.2.2) ∧ (lastStep a (o a) x.2.2 = rc0 ∨ 0 < (lastStep a (o a) x.2.2).seq) := by
  have hL0 : ∀ r : Rc, ¬ (x.2.2.state = 1 ∧ x.2.2.rc.addr = a ∧ r.seq < x.2.2.rc.seq) → lastStep a r x.2.2 = r := fun r hr => by unfold lastStep; rw [if_neg hr]
  by_cases hc : x.2.2.state = 1 ∧ (o x.2.2.rc.addr).seq < x.2.2.rc.seq
  · have hs := (recOk_addr (rec_of_written hx hc.1)).2.2.2.2.1
    have hM : lmStep F x = fun a => if a = x.2.2.rc.addr then some x.2.2.rc else F a := by unfold lmStep; rw [h, foundR_getD (h0 _), if_pos hc]
    rw [hM]
    by_cases ha : a = x.2.2.rc.addr
    · have hL : lastStep a (o a) x.2.2 = x.2.2.rc := by rw [ha]; unfold lastStep; rw [if_pos ⟨hc.1, rfl, hc.2⟩]
      rw [hL]
      exact ⟨by dsimp only; rw [if_pos ha]; unfold foundR; rw [if_pos (by omega)], .inr (by omega)⟩
    · rw [hL0 _ (fun e => ha e.2.1.symm)]
      exact ⟨by dsimp only; rw [if_neg ha]; exact h a, h0 a⟩
  · have hM : lmStep F x = F := by unfold lmStep; rw [h, foundR_getD (h0 _), if_neg hc]
    rw [hM, hL0 _ (fun e => hc ⟨e.1, by rw [e.2.1]; exact e.2.2⟩)]
    exact ⟨h a, h0 a⟩
theorem lm_tag : ∀ (ps : List Pg) (i j : Nat) (F : Int → Option Rc) (o : Int → Rc), (∀ p ∈ ps, pageOk p = true) → (∀ a, F a = foundR (o a)) → (∀ a, o a = rc0 ∨ 0 < (o a).seq) →
    ∀ a, (tagFrom i j ps).foldl lmStep F a = foundR (lastPs a (o a) ps) ∧ (lastPs a (o a) ps = rc0 ∨ 0 < (lastPs a (o a) ps).seq)
  | [], _, _, F, o, _, h, h0, a => ⟨h a, h0 a⟩
  | p :: ps, i, j, F, o, hp, h, h0, a => by
    have hst := fun a => lm_step (x := (i, j, p)) (hp p (List.mem_cons_self ..)) h h0 a
    rw [tagFrom, List.foldl_cons]
    exact lm_tag ps i (j + 1) (lmStep F (i, j, p)) (fun a => lastStep a (o a) p) (fun q hq => hp q (List.mem_cons_of_mem _ hq)) (fun a => (hst a).1) (fun a => (hst a).2) a
theorem lm_all : ∀ (f : List Bk) (i : Nat) (F : Int → Option Rc) (o : Int → Rc), (∀ b ∈ f, ∀ p ∈ b.pages, pageOk p = true) → (∀ a, F a = foundR (o a)) → (∀ a, o a = rc0 ∨ 0 < (o a).seq) →
    ∀ a, (allFrom i f).foldl lmStep F a = foundR (f.foldl (fun o b => lastPs a o b.pages) (o a))
  | [], _, F, o, _, h, _, a => h a
  | b :: f, i, F, o, hp, h, h0, a => by
    have hst := fun a => lm_tag b.pages i 0 F o (hp b (List.mem_cons_self ..)) h h0 a
    rw [allFrom, List.foldl_append]
    exact lm_all f (i + 1) _ (fun a => lastPs a (o a) b.pages) (fun c hc => hp c (List.mem_cons_of_mem _ hc)) (fun a => (hst a).1) (fun a => (hst a).2) a
theorem lastMap_eq {f : List Bk} (h : flashOk f = true) (a : Int) : lastMap (allFrom 0 f) a = foundR (last f a) :=
  lm_all f 0 (fun _ => none) (fun _ => rc0) (fun b hb => (bk_parts h hb).2.2.2) (fun _ => rfl) (fun _ => .inl rfl) a
theorem tag_len (i : Nat) : ∀ (ps : List Pg) (j : Nat), (tagFrom i j ps).length = ps.length
  | [], _ => rfl
  | _ :: ps, j => by rw [tagFrom, List.length_cons, tag_len i ps, List.length_cons]
theorem all_len : ∀ (f : List Bk) (i : Nat), (∀ b ∈ f, b.pages.length = 4) → (allFrom i f).length = 4 * f.length
  | [], _, _ => rfl
  | b :: f, i, h => by
    rw [allFrom, List.length_append, tag_len, all_len f (i + 1) (fun c hc => h c (List.mem_cons_of_mem _ hc)), h b (List.mem_cons_self ..), List.length_cons]
    omega
theorem zero_rec (w : World) : (zeroValue 45).run Try.prog w = .ok (rcV rc0) w := by kernel_rfl
theorem field_seq (a b c d : Int) (w : World) : (Instr.field 45 (.agg #[.int .i64 a, .int .i64 b, .int .i64 c, .int .i64 d]) 1).run Try.prog w = .ok (.int .i64 b) w := by kernel_rfl
theorem wf_int {k : Int} (h : -1000 ≤ k ∧ k ≤ 1000) : (Lit.int .i64 k).wf = true := by
  have h1 : IntKind.i64.min ≤ k := Int.le_trans (by decide) h.1
  have h2 : k ≤ IntKind.i64.max := Int.le_trans h.2 (by decide)
  simp only [Lit.wf, Bool.and_eq_true, decide_eq_true_iff]
  exact ⟨h1, h2⟩
/-! ### the walk -/
abbrev PgOf (f : List Bk) := { x : PgAt // x ∈ allFrom 0 f }
theorem eachPageF_stops (F : Fence) (n : Nat) (hF : F.fn 141) (hro : F.round = none) (hn : 1 ≤ n) (Bs n₀ g o c : Nat) (f : List Bk) (hs : List (Option Addr × Nat)) (w : World) (hB : Bs < w.heap.size) (hn₀ : n₀ ≤ w.heap.size)
    (hBs : w.cell? ⟨Bs, 0, none⟩ = some (.slice (some ⟨g, o, none⟩) f.length c)) (hl : f.length < 1000000000000) (hp : ∀ b ∈ f, b.pages.length < 1000000000000)
    (hBk : Bks w (some ⟨g, o, none⟩) f hs) (hlow : ∀ b, fblk (some ⟨g, o, none⟩) hs b → b < n₀) :
    SeqStopsK F n Try.prog 141 #[.pointer (some ⟨Bs, 0, none⟩)] (fun x : PgOf f => encP x.1) (Below n₀) (fun ys => ys.map Subtype.val = allFrom 0 f) (fun pre => pre.map Subtype.val <+: allFrom 0 f) (allFrom 0 f).length w := fun l J Jx W hW hJ _ hY h0 => by
  refine (eachPage1_in F n hF hro hn l Bs n₀ g o c f hs (fun pre V => ∃ pre' : List (PgOf f), pre'.map Subtype.val = pre ∧ J pre' V) (fun pre V => ∃ pre' : List (PgOf f), pre'.map Subtype.val = pre ∧ Jx pre' V) W (Nat.le_trans hn₀ hW.size)
    (fun s X Y row hs hg hr => by obtain ⟨p, e, h⟩ := hs; exact ⟨p, e, hJ p X Y row h hg hr⟩) (fun pre x W1 h1 h2 h3 => ?_) ((hW.cell (p := ⟨Bs, 0, none⟩) hB).trans hBs) hl hp (hBk.keep fun q hq hl => hW.block q (by omega)) hlow ⟨[], rfl, h0⟩).mono ?_
  · obtain ⟨pre', rfl, hj⟩ := h1
    refine (hY pre' ⟨x, h3.2⟩ W1 hj (by simpa using h2)).mono ?_
    rintro e V (⟨rfl, hj2, hk⟩ | ⟨rfl, hj2⟩)
    · exact .inl ⟨rfl, ⟨_, by simp, hj2⟩, hk⟩
    · exact .inr ⟨rfl, _, by simp, hj2⟩
  · rintro e V ⟨he, ⟨ys, rfl, pre', h1, h2⟩ | ⟨pre, h0, pre', rfl, h2⟩⟩
    · exact ⟨he, .inl ⟨pre', h1, h2⟩⟩
    · exact ⟨he, .inr ⟨pre', h0, h2⟩⟩
theorem page_of {f : List Bk} (h : flashOk f = true) (x : PgOf f) : pageOk x.1.2.2 = true := by
  obtain ⟨b, hb, hx⟩ := mem_all x.2
  exact (bk_parts h hb).2.2.2 _ hx
def lmOf {f : List Bk} (pre : List (PgOf f)) : Int → Option Rc := lastMap (pre.map Subtype.val)
theorem lmOf_snoc {f : List Bk} (pre : List (PgOf f)) (x : PgOf f) : lmOf (pre ++ [x]) = lmStep (lmOf pre) x.1 := by unfold lmOf; rw [List.map_append]; exact lastMap_snoc _ _
theorem rmap_kept {P : Program} {K : TypeId} {f : List Bk} (b n₀ : Nat) (hb : b < n₀) : OwnFrom n₀ (fun (pre : List (PgOf f)) W => RMap P K W b pre.length (lmOf pre)) := fun _ _ _ _ hs hg hr =>
  hs.kept hg (fun e => by have := (hr _ e.symm).1; omega)
set_option maxRecDepth 100000 in
set_option maxHeartbeats 4000000 in
theorem impl_lastRecords (f : List Bk) (A : Option Addr) (n c : Nat) (w : World) (hn : n = f.length) (hok : flashOk f = true) (hF : Fl w A f) :
    Calls Try.prog 67 #[.slice A n c] w fun e w' => e = .returned (.map (some w.heap.size)) ∧ RMap Try.prog 3 w' w.heap.size 16 (lastMap (allFrom 0 f)) ∧ Below w.heap.size w w' := by
  subst hn
  refine (callsIn_wide (n := 6)).1 ?_
  refine callsIn_of_wp_marks Try.func67 rfl trivial ?_ rfl
  simp only [Try.ntmps67, List.size_toArray, List.length_cons, List.length_nil, Nat.reduceAdd, Nat.reduceSub, Array.replicate_succ, Array.replicate_zero, List.push_toArray, List.append_toArray, List.nil_append, List.cons_append]
  have hmm := @run_makeMap Try.prog
  have hfd := field_seq
  have hfl := flashOk_len hok
  have HFL := Lib.hid hfl
  have HOK := Lib.hid hok
  have HP := Lib.hid (show ∀ b ∈ f, b.pages.length < 1000000000000 from fun b hb => by rw [(flashOk_shape hok b hb).1]; omega)
  have HPL := Lib.hid (fun b hb => (flashOk_shape hok b hb).1)
  have HAL := Lib.hid (all_len f 0 HPL.out)
  obtain ⟨hs, hBk⟩ := hF
  obtain ⟨g, o, rfl⟩ := hBk.addr (by intro e; have := HFL.out; rw [e] at this; simp at this)
  clear hfl hok
  gi_wp2_with (refine ⟨trivial, ?_⟩; gi_at_call 94; refine (eachPage_in Fence.wide _ trivial rfl _ _ _ _).mono ?_; rintro e w2 ⟨rfl, rfl⟩)
  have hlow : ∀ b, fblk (some ⟨g, o, none⟩) hs b → b < w.heap.size := fun b hb => by
    have h4 := HFL.out
    rcases hb with hb | ⟨i, x, hx, hb⟩
    · rw [blk_some] at hb
      subst hb
      obtain ⟨B, hB⟩ := get_some (l := f) (k := 0) (by omega)
      obtain ⟨_, _, c0, _⟩ := hBk.at_ hB
      exact lt_of_cell c0
    · obtain ⟨B, hB⟩ := get_some (l := f) (k := i) (by rw [← hBk.len]; exact (List.getElem?_eq_some_iff.1 hx).1)
      have hr := (hBk.pg i B x hB hx).1
      have hn : B.pages ≠ [] := by intro hn; have := HPL.out B (List.mem_of_getElem? hB); rw [hn] at this; simp at this
      obtain ⟨b', o', he, hc⟩ := hr (pgs_ne hn)
      rw [he, blk_some] at hb
      subst hb
      obtain ⟨q, hq⟩ := get_some (l := pgs B.pages) (k := 0) (by rw [pgs_len]; have := List.length_pos_iff.2 hn; omega)
      exact lt_of_cell (hc 0 q hq).1
  have hm0 := ((RMap.made Try.prog 3 w).alloc (.cells #[.map (some w.heap.size)] 86)).alloc (.cells #[.slice (some ⟨g, o, none⟩) f.length c] 23)
  have bS := (Boxed.new (w.alloc (.map #[] 0)) 86 (.map (some w.heap.size))).alloc (.cells #[.slice (some ⟨g, o, none⟩) f.length c] 23)
  have bA := Boxed.new ((w.alloc (.map #[] 0)).alloc (.cells #[.map (some w.heap.size)] 86)) 23 (.slice (some ⟨g, o, none⟩) f.length c)
  simp only [World.size_alloc] at bS bA
  have hB0 : Below w.heap.size w (((w.alloc (.map #[] 0)).alloc (.cells #[.map (some w.heap.size)] 86)).alloc (.cells #[.slice (some ⟨g, o, none⟩) f.length c] 23)) := (((Below.refl _ w).alloc (Nat.le_refl _) _).alloc (by simp) _).alloc (by simp; omega) _
  have hsz : (((w.alloc (.map #[] 0)).alloc (.cells #[.map (some w.heap.size)] 86)).alloc (.cells #[.slice (some ⟨g, o, none⟩) f.length c] 23)).heap.size = w.heap.size + 3 := by simp
  have hBk2 := ((hBk.alloc (.map #[] 0)).alloc (.cells #[.map (some w.heap.size)] 86)).alloc (.cells #[.slice (some ⟨g, o, none⟩) f.length c] 23)
  obtain ⟨W0, hW0⟩ : ∃ W0, ((w.alloc (.map #[] 0)).alloc (.cells #[.map (some w.heap.size)] 86)).alloc (.cells #[.slice (some ⟨g, o, none⟩) f.length c] 23) = W0 := ⟨_, rfl⟩
  rw [hW0] at bS bA hB0 hsz hBk2 hm0 ⊢
  have hl4 : f.length < 1000000000000 := by rw [HFL.out]; omega
  clear hW0 hBk
  refine wpIn_rangeFunc_ownH rfl (by omega) (gf := 141) (lb := #[.pointer (some ⟨w.heap.size + 1 + 1, 0, none⟩)]) rfl trivial (enters_of Try.func141 (by kernel_rfl) rfl)
    (eachPageF_stops Fence.wide _ trivial rfl (by omega) (w.heap.size + 1 + 1) w.heap.size g o c f hs W0 (by omega) (by omega) bA.cell hl4 HP.out hBk2 hlow) belowK_t (belowK_b (by omega)) (Below.refl _ _) (fun _ => rfl)
    (fun pre W => (Boxed W (w.heap.size + 1) 86 (.map (some w.heap.size)) ∧ RMap Try.prog 3 W w.heap.size pre.length (lmOf pre)) ∧ Below w.heap.size w W)
    (fun _ _ _ => False)
    (OwnFrom.and (OwnFrom.and (Own.from (boxed_own _ _ (fun _ => _)) _) (rmap_kept _ _ (by omega))) (ownFrom_below (Nat.le_refl _) (by omega)))
    (fun _ _ _ _ _ hs _ _ => hs)
    ⟨⟨bS, hm0⟩, hB0⟩
    (fun x a' W => ∃ Bx, w.heap.size + 1 < Bx ∧ Laid W Bx 119 (pgv x.1.2.2) ∧ a' = { tmps := #[.slice (some ⟨g, o, none⟩) f.length c, undef, .map none, .pointer (some ⟨w.heap.size + 1, 0, none⟩), undef, .pointer (some ⟨Bx, 0, none⟩), .map (some w.heap.size), .slice (some ⟨g, o, none⟩) f.length c, .func (.func 141) #[] #[.pointer (some ⟨w.heap.size + 1 + 1, 0, none⟩)], .agg #[.int .i64 (x.1.1 : Int), .int .i64 (x.1.2.1 : Int)], .agg (pgv x.1.2.2), undef, undef, undef, undef, undef, undef, undef, undef, undef, undef, undef, undef, undef, undef, undef, undef, undef, undef, undef, undef, undef, undef], defers := [] })
    (fun x a' _ X Y row hs hg hr => by obtain ⟨Bx, h1, h2, h3⟩ := hs; exact ⟨Bx, h1, laid_own Bx _ _ _ () X Y row h2 hg hr, h3⟩)
    ?assign ?body ?done ?stop
  case assign =>
    rintro l pre x W K ⟨⟨bS1, hR1⟩, hB1⟩ hK
    dsimp only [encP]
    gi_wp2
    exact hK _ _ ((KeepsOthers.alloc _ _).from _) ((Below.refl _ W).alloc hB1.size _) ⟨⟨bS1.alloc _, hR1.alloc _⟩, hB1.alloc hB1.size _⟩ ⟨W.heap.size, bS1.lt, World.alloc_heap_new W _, rfl⟩
  case body =>
    rintro l pre x a' W hl ⟨r, hr⟩ ⟨⟨bS1, hR1⟩, hB1⟩ ⟨Bx, hBx, bX, rfl⟩ hlt
    have hpk := page_of HOK.out x
    have cS := bS1.cell
    have x0 : W.cell? ⟨Bx, 0, none⟩ = some (.int .i64 x.1.2.2.state) := bX.cell 0 rfl
    have x1 : W.cell? ⟨Bx, 1, none⟩ = some (.int .i64 x.1.2.2.rc.kind) := bX.cell 1 rfl
    have x2 : W.cell? ⟨Bx, 2, none⟩ = some (.int .i64 x.1.2.2.rc.seq) := bX.cell 2 rfl
    have x3 : W.cell? ⟨Bx, 3, none⟩ = some (.int .i64 x.1.2.2.rc.addr) := bX.cell 3 rfl
    have x4 : W.cell? ⟨Bx, 4, none⟩ = some (.int .i64 x.1.2.2.rc.val) := bX.cell 4 rfl
    have hst : Hid (lmOf (pre ++ [x]) = lmStep (lmOf pre) x.1) := lmOf_snoc pre x
    have hll : (pre ++ [x]).length = pre.length + 1 := by simp
    by_cases h1 : x.1.2.2.state = 1
    · have hra := recOk_addr (rec_of_written hpk h1)
      have hwf := wf_int (k := x.1.2.2.rc.addr) (by omega)
      have hlk := hR1.look (t := 86) Try.underlying86 Try.underlying3 zero_rec hwf
      have hmax : pre.length < maxLen := by have := HAL.out; have := HFL.out; unfold maxLen; omega
      obtain ⟨w1, hrun, hR2, hg⟩ := hR1.put (t := 86) Try.underlying86 Try.underlying3 hmax x.1.2.2.rc hwf
      have HSM := Lib.hid (show lmStep (lmOf pre) x.1 = if (((lmOf pre) x.1.2.2.rc.addr).getD rc0).seq < x.1.2.2.rc.seq then (fun a => if a = x.1.2.2.rc.addr then some x.1.2.2.rc else lmOf pre a) else lmOf pre from by
        unfold lmStep
        by_cases hc : (((lmOf pre) x.1.2.2.rc.addr).getD rc0).seq < x.1.2.2.rc.seq
        · rw [if_pos ⟨h1, hc⟩, if_pos hc]
        · rw [if_neg (fun e => hc e.2), if_neg hc])
      unfold rcV at hlk hrun
      obtain ⟨es, ck, hmap⟩ := hR1.at_
      generalize ((lmOf pre) x.1.2.2.rc.addr).getD rc0 = q at *
      rw [h1] at x0
      clear h1 hra hwf hmax hpk
      by_cases hc : q.seq < x.1.2.2.rc.seq
      · have hH := HSM.out
        rw [if_pos hc] at hH
        replace HSM := Lib.hid hH
        have H2 := Lib.hid hR2
        have HM := Lib.hid hmap
        clear hH hmap hR2
        gi_wp2
        exact ⟨KeepsFrom.of_grownBy hg (fun j e => by cases e; omega), (Below.refl _ W).grown hg hB1.size (fun k e => by cases e; exact Nat.le_refl _),
          ⟨bS1.kept hg (fun e => by injection e with e; omega), by rw [hst.out, HSM.out, hll]; exact H2.out⟩, hB1.grown hg hB1.size (fun k e => by cases e; exact Nat.le_refl _)⟩
      · have hH := HSM.out
        rw [if_neg hc] at hH
        replace HSM := Lib.hid hH
        clear hH hmap hR2 hg hrun
        gi_wp2
        exact ⟨KeepsFrom.refl _ _, Below.refl _ _, ⟨bS1, by rw [hst.out, HSM.out]; exact hR1.mono (by omega)⟩, hB1⟩
    · have hH : lmStep (lmOf pre) x.1 = lmOf pre := by unfold lmStep; rw [if_neg (fun e => h1 e.1)]
      have HSM := Lib.hid hH
      have h1' : (x.1.2.2.state == 1) = false := by simpa using h1
      clear hH h1 hpk
      gi_wp2
      exact ⟨KeepsFrom.refl _ _, Below.refl _ _, ⟨bS1, by rw [hst.out, HSM.out]; exact hR1.mono (by omega)⟩, hB1⟩
  case done =>
    rintro D ys W hD hys ⟨⟨bS1, hR1⟩, hB1⟩ hK
    have cS := bS1.cell
    gi_wp2
    refine ⟨by simp, .inl ⟨_, _, rfl, run_takeDeferred hK, ?_⟩⟩
    have hyl : ys.length ≤ 16 := by have h1 := HAL.out; have h2 := HFL.out; rw [← hys, List.length_map] at h1; omega
    have hRf : RMap Try.prog 3 W w.heap.size 16 (lastMap (allFrom 0 f)) := by rw [← hys]; exact hR1.mono hyl
    exact ⟨_, results_tmp rfl _ _ _, rfl, hRf.kept (grownBy_putObj' _ D _) (fun e => by cases e; omega), hB1.trans (belowK_b (w := w) (Nat.le_refl _) W D _ _ (by omega) hK rfl rfl)⟩
  case stop =>
    rintro D c pre W _ _ h _
    exact h.elim
end Go.Proofs.Ytbekihiiildgmaa
namespace Go.Proofs.Ytbekihiiildgmaa
set_option linter.unusedVariables false
set_option linter.unusedSimpArgs false
open Go.RowKit Go.Maps
set_option maxHeartbeats 400000
def partGo : Nat → List Bk → Option Nat
  | _, [] => none
  | i, b :: r => if partly b = true then some i else partGo (i + 1) r
def bestGo (f : List Bk) : Nat → Nat → Bool → List Bk → Nat × Bool
  | _, best, found, [] => (best, found)
  | i, best, found, b :: r => if clean b = 4 ∧ (found = false ∨ b.worn < (f.getD best zbk).worn) then bestGo f (i + 1) i true r else bestGo f (i + 1) best found r
def openI (f : List Bk) : Int × Bool :=
  match partGo 0 f with
  | some i => ((i : Int), true)
  | none => (((bestGo f 0 0 false f).1 : Int), (bestGo f 0 0 false f).2)
theorem openGo_eq {f : List Bk} : ∀ (r : List Bk) (i best : Nat) (found : Bool) (out : Int), (∀ b ∈ r, b.pages.length = 4) → (found = false → best = 0 ∧ out = -1) → (found = true → out = best) →
    openGo f i out r = match partGo i r with
      | some j => ((j : Int), true)
      | none => (((bestGo f i best found r).1 : Int), (bestGo f i best found r).2)
  | [], i, best, found, out, _, h1, h2 => by
    cases found
    · obtain ⟨rfl, rfl⟩ := h1 rfl; rfl
    · obtain rfl := h2 rfl
      unfold openGo partGo bestGo
      simp
  | b :: r, i, best, found, out, hp, h1, h2 => by
    have hc := clean_le4 (hp b (List.mem_cons_self ..))
    have hp' : ∀ c ∈ r, c.pages.length = 4 := fun c hc => hp c (List.mem_cons_of_mem _ hc)
    unfold openGo partGo bestGo
    by_cases hpt : 0 < clean b ∧ clean b < 4
    · have hpb : partly b = true := by unfold partly; simp [hpt.1, hpt.2]
      rw [if_pos hpt, if_pos hpb]
    · have hpb : ¬ partly b = true := by unfold partly; simpa using hpt
      rw [if_neg hpt, if_neg hpb]
      by_cases h4 : clean b = 4 ∧ (found = false ∨ b.worn < (f.getD best zbk).worn)
      · have hcond : 0 < clean b ∧ (out < 0 ∨ b.worn < (f.getD out.toNat zbk).worn) := by
          refine ⟨by omega, ?_⟩
          cases found
          · obtain ⟨_, rfl⟩ := h1 rfl; exact .inl (by omega)
          · obtain rfl := h2 rfl
            rcases h4.2 with h | h
            · cases h
            · exact .inr (by rw [Int.toNat_natCast]; exact h)
        rw [if_pos hcond, if_pos h4]
        exact openGo_eq r (i + 1) i true i hp' (fun h => by cases h) (fun _ => rfl)
      · have hcond : ¬ (0 < clean b ∧ (out < 0 ∨ b.worn < (f.getD out.toNat zbk).worn)) := by
          rintro ⟨ha, hb⟩
          have hcl : clean b = 4 := by omega
          refine h4 ⟨hcl, ?_⟩
          cases found
          · exact .inl rfl
          · obtain rfl := h2 rfl
            rcases hb with hb | hb
            · omega
            · exact .inr (by rw [Int.toNat_natCast] at hb; exact hb)
        rw [if_neg hcond, if_neg h4]
        exact openGo_eq r (i + 1) best found out hp' h1 h2
theorem openI_eq {f : List Bk} (h : ∀ b ∈ f, b.pages.length = 4) : openB f = openI f := openGo_eq f 0 0 false (-1) h (fun _ => ⟨rfl, rfl⟩) (fun h => by cases h)
end Go.Proofs.Ytbekihiiildgmaa
namespace Go.Proofs.Ytbekihiiildgmaa
set_option linter.unusedVariables false
set_option linter.unusedSimpArgs false
open Go.RowKit Go.Maps
set_option maxHeartbeats 400000
def hiGo (ss : List Span) : Nat → Nat → List Span → Nat
  | _, old, [] => old
  | i, old, s :: r => if s.2 < (ss.getD old (0, 0)).2 then hiGo ss (i + 1) i r else hiGo ss (i + 1) old r
def findOld (f : List Bk) : Int := if flashOk f = true then (hiGo (spOf (allFrom 0 f)) 0 0 (spOf (allFrom 0 f)) : Nat) else -1
end Go.Proofs.Ytbekihiiildgmaa
namespace Go.Proofs.Ytbekihiiildgmaa
set_option linter.unusedVariables false
set_option linter.unusedSimpArgs false
open Go.RowKit Go.Maps
set_option maxHeartbeats 400000
set_option maxHeartbeats 8000000 in
set_option maxRecDepth 100000 in
theorem impl_FindOrder (f : List Bk) (A : Option Addr) (n c : Nat) (w : World) (hn : n = f.length) (hF : Fl w A f) :
    Calls Try.prog 68 #[.slice A n c] w fun e w' => e = .returned (.bool (findOrderI f)) ∧ Below w.heap.size w w' := by
  subst hn
  go_enter Try.func68, Try.ntmps68
  go_wp2_with fail
  refine (impl_FlashOk f A c _ hF).mono ?_
  rintro e w1 ⟨rfl, hb1⟩
  by_cases hok : flashOk f = true
  · have HSH := Lib.hid (fun b hb => (flashOk_shape hok b hb).1)
    have HL := Lib.hid (flashOk_len hok)
    have hfin : Hid (findOrderI f = ordI (spOf (allFrom 0 f)) f) := by unfold Hid findOrderI; rw [if_pos hok]
    have hln := spOf_len (allFrom 0 f)
    rw [hok]
    clear hok
    obtain ⟨hs, hBk⟩ := hF
    obtain ⟨g, o, rfl⟩ := hBk.addr (by intro e; have := HL.out; rw [e] at this; simp at this)
    have hlow : ∀ b, fblk (some ⟨g, o, none⟩) hs b → b < w1.heap.size := fun b hb => by
      have h4 := HL.out
      have hs1 := hb1.size
      rcases hb with hb | ⟨i, x, hx, hb⟩
      · rw [blk_some] at hb
        subst hb
        obtain ⟨B, hB⟩ := get_some (l := f) (k := 0) (by omega)
        obtain ⟨_, _, c0, _⟩ := hBk.at_ hB
        have := lt_of_cell c0
        omega
      · obtain ⟨B, hB⟩ := get_some (l := f) (k := i) (by rw [← hBk.len]; exact (List.getElem?_eq_some_iff.1 hx).1)
        have hr := (hBk.pg i B x hB hx).1
        have hB4 := HSH.out B (List.mem_of_getElem? hB)
        obtain ⟨b', o', he, hc⟩ := hr (pgs_ne (by intro e; rw [e] at hB4; simp at hB4))
        rw [he, blk_some] at hb
        subst hb
        obtain ⟨q, hq⟩ := get_some (l := pgs B.pages) (k := 0) (by rw [pgs_len]; omega)
        have := lt_of_cell (hc 0 q hq).1
        omega
    have hcall := impl_spansOf f hs g o c _ HL.out HSH.out (hBk.below hb1 (Nat.le_refl _)) hlow
    rw [← HL.out] at hcall
    go_wp2_with fail
    refine hcall.mono ?_
    clear hcall
    rw [HL.out]
    rintro e w2 ⟨sb, rfl, hsb, hR, hb2⟩
    generalize spOf (allFrom 0 f) = ss at *
    have HLN := Lib.hid hln
    have hB2 := hb1.trans (hb2.mono hb1.size)
    have hBk2 := hBk.below hB2 (Nat.le_refl _)
    have hs2 := hb2.size
    clear hln hb2 hlow hBk
    go_wp2
    go_loopw [4, 19] (fun q i wr => ∃ (k : Nat) (m : Int), k ≤ 4 ∧ i = .int .i64 k ∧ q = .int .i64 m ∧ Below w2.heap.size w2 wr ∧ Hid (ordGo ss 0 0 ss = ordGo ss k m (ss.drop k))) (fun _ i _ => 4 - (intOf i).toNat)
    case atStart => exact ⟨0, 0, by omega, rfl, rfl, Below.refl _ _, rfl⟩
    case round =>
      obtain ⟨k, m, hk, rfl, rfl, hB, hT⟩ := hrel
      by_cases hlt : k < 4
      · obtain ⟨s, hsk⟩ := get_some (l := ss) (k := k) (by rw [HLN.out]; exact hlt)
        have hRk := hR.below hB (Nat.le_refl _)
        obtain ⟨a0, a1, _, _⟩ := hRk.span hsk
        have hT2 : Hid (ordGo ss 0 0 ss = if (ss.take k).any (spClash s) = true then none else ordGo ss (k + 1) (max m s.2) (ss.drop (k + 1))) := by rw [Hid, hT.out, drop_cons hsk, ordGo]
        obtain ⟨wo, rfl⟩ : ∃ wo : World, wo = wr := ⟨_, rfl⟩
        have hk1 : (k : Int) < 4 := by omega
        have hk4 : (k : Int) ≤ 4 := by omega
        have hBa : Below w2.heap.size w2 (wo.alloc (.cells #[.int .i64 s.1, .int .i64 s.2] 144)) := hB.alloc hB.size _
        have hsz : (wo.alloc (.cells #[.int .i64 s.1, .int .i64 s.2] 144)).heap.size = wo.heap.size + 1 := by simp
        have p0 : (wo.alloc (.cells #[.int .i64 s.1, .int .i64 s.2] 144)).cell? ⟨wo.heap.size, 0, none⟩ = some (.int .i64 s.1) := by simp [go_sem]
        have p1 : (wo.alloc (.cells #[.int .i64 s.1, .int .i64 s.2] 144)).cell? ⟨wo.heap.size, 1, none⟩ = some (.int .i64 s.2) := by simp [go_sem]
        clear hsk hT hRk
        rcases Int.lt_or_le m s.2 with hmx | hmx
        case' inl => have hT3 : Hid (ordGo ss 0 0 ss = if (ss.take k).any (spClash s) = true then none else ordGo ss (k + 1) s.2 (ss.drop (k + 1))) := by rw [Hid, hT2.out, Int.max_eq_right (by omega)]
        case' inr => have hT3 : Hid (ordGo ss 0 0 ss = if (ss.take k).any (spClash s) = true then none else ordGo ss (k + 1) m (ss.drop (k + 1))) := by rw [Hid, hT2.out, Int.max_eq_left (by omega)]
        all_goals
          clear hT2
          go_wp2
          go_loopw [32] (fun i wl => ∃ j : Nat, j ≤ k ∧ i = .int .i64 j ∧ Below w2.heap.size w2 wl ∧ wo.heap.size < wl.heap.size ∧ wl.cell? ⟨wo.heap.size, 0, none⟩ = some (.int .i64 s.1) ∧ wl.cell? ⟨wo.heap.size, 1, none⟩ = some (.int .i64 s.2) ∧ Hid (∀ t ∈ ss.take j, spClash s t = false)) (fun i _ => k - (intOf i).toNat)
          case atStart => exact ⟨0, by omega, rfl, hBa, by omega, p0, p1, by rw [Hid]; simp⟩
          case round =>
            obtain ⟨j, hj, rfl, hBl, hlt2, q0, q1, hU⟩ := hrel
            by_cases hjk : j < k
            · obtain ⟨t, htj⟩ := get_some (l := ss) (k := j) (by rw [HLN.out]; omega)
              obtain ⟨b0, b1, _, _⟩ := (hR.below hBl (Nat.le_refl _)).span htj
              have hjk1 : (j : Int) < k := by omega
              have hBb := hBl.alloc hBl.size (.cells #[.int .i64 t.1, .int .i64 t.2] 144)
              have r0 : (wr.alloc (.cells #[.int .i64 t.1, .int .i64 t.2] 144)).cell? ⟨wo.heap.size, 0, none⟩ = some (.int .i64 s.1) := (((Below.refl wr.heap.size wr).alloc (Nat.le_refl _) _).cell (p := ⟨wo.heap.size, 0, none⟩) hlt2).trans q0
              have r1 : (wr.alloc (.cells #[.int .i64 t.1, .int .i64 t.2] 144)).cell? ⟨wo.heap.size, 1, none⟩ = some (.int .i64 s.2) := (((Below.refl wr.heap.size wr).alloc (Nat.le_refl _) _).cell (p := ⟨wo.heap.size, 1, none⟩) hlt2).trans q1
              have hgt : wo.heap.size < (wr.alloc (.cells #[.int .i64 t.1, .int .i64 t.2] 144)).heap.size := by simp; omega
              have hcl : spClash s t = false → Hid (∀ t ∈ ss.take (j + 1), spClash s t = false) := fun hc t' ht' => by
                rw [List.take_add_one, htj] at ht'
                rcases List.mem_append.1 ht' with h | h
                · exact hU.out t' h
                · simp at h; rw [h]; exact hc
              have HCL := Lib.hid hcl
              have hhit : spClash s t = true → Hid (ordGo ss 0 0 ss = none) := fun hc => by
                rw [Hid, hT3.out, if_pos]
                rw [List.any_eq_true]
                exact ⟨t, List.mem_iff_getElem?.2 ⟨j, by rw [List.getElem?_take, if_pos hjk]; exact htj⟩, hc⟩
              have HHIT := Lib.hid hhit
              clear hcl hhit htj hU p0 p1 q0 q1 hmx
              by_cases h1 : 0 < s.2
              · by_cases h2 : 0 < t.2
                · by_cases h3 : t.1 ≤ s.2
                  · by_cases h4 : s.1 ≤ t.2
                    · have hx := HHIT.out (by simp [spClash, h1, h2, h3, h4])
                      go_wp2
                      go_ret
                      exact ⟨ret_bool (by rw [hfin.out]; unfold ordI; rw [hx.out]), hB2.trans (hBb.mono hB2.size)⟩
                    · have hx := HCL.out (by simp [spClash, h4])
                      go_wp2
                      go_roundw
                      (case rel => exact ⟨j + 1, by omega, by go_num, hBb, hgt, r0, r1, hx⟩)
                      (case measure => simp [intOf]; omega)
                  · have hx := HCL.out (by simp [spClash, h3])
                    go_wp2
                    go_roundw
                    (case rel => exact ⟨j + 1, by omega, by go_num, hBb, hgt, r0, r1, hx⟩)
                    (case measure => simp [intOf]; omega)
                · have hx := HCL.out (by simp [spClash, h2])
                  go_wp2
                  go_roundw
                  (case rel => exact ⟨j + 1, by omega, by go_num, hBb, hgt, r0, r1, hx⟩)
                  (case measure => simp [intOf]; omega)
              · have hx := HCL.out (by simp [spClash, h1])
                go_wp2
                go_roundw
                (case rel => exact ⟨j + 1, by omega, by go_num, hBb, hgt, r0, r1, hx⟩)
                (case measure => simp [intOf]; omega)
            · obtain rfl : j = k := by omega
              have hx : (ss.take j).any (spClash s) = false := by
                rw [List.any_eq_false]
                exact fun t ht => by rw [hU.out t ht]; simp
              have hT4 := hT3.out
              rw [if_neg (by rw [hx]; simp)] at hT4
              replace hT4 := Lib.hid hT4
              clear hx hT3
              go_wp2
              go_roundw
              (case rel => exact ⟨j + 1, _, by omega, by go_num, rfl, hBl, hT4⟩)
              (case measure => simp [intOf]; omega)
      · have hk4 : (4 : Int) ≤ (k : Int) := by omega
        have h3 : Hid (ordGo ss 0 0 ss = some m) := by rw [Hid, hT.out, List.drop_of_length_le (by rw [HLN.out]; omega)]; rfl
        have hfin2 : Hid (findOrderI f = partOrd ss m 0 0 f) := by rw [Hid, hfin.out, ordI, h3.out]
        clear hT h3
        have hf4 := HL.out
        have hBz := hB
        obtain ⟨wo, rfl⟩ : ∃ wo : World, wo = wr := ⟨_, rfl⟩
        go_wp2
        go_loopw [9, 62] (fun q i wl => ∃ k c : Nat, k ≤ 4 ∧ c ≤ k ∧ i = .int .i64 k ∧ q = .int .i64 c ∧ Below w2.heap.size w2 wl ∧ Hid (partOrd ss m 0 0 f = partOrd ss m k c (f.drop k))) (fun _ i _ => 4 - (intOf i).toNat)
        case atStart => exact ⟨0, 0, by omega, by omega, rfl, rfl, hBz, rfl⟩
        case round =>
          obtain ⟨k, n, hk, hn, rfl, rfl, hB, hT⟩ := hrel
          by_cases hlt : k < 4
          · obtain ⟨B, hb⟩ := get_some (l := f) (k := k) (by omega)
            obtain ⟨s, hsk⟩ := get_some (l := ss) (k := k) (by rw [HLN.out]; exact hlt)
            have hgs : ss.getD k (0, 0) = s := by rw [List.getD_eq_getElem?_getD, hsk]; rfl
            obtain ⟨⟨Z, cz⟩, _, c0, c1, _, _, hRz, _⟩ := (hBk2.below hB (Nat.le_refl _)).at_ hb
            dsimp only at c0 hRz
            have hpl : B.pages.length < 1000000000000 := by rw [HSH.out B (List.mem_of_getElem? hb)]; omega
            have hk1 : (k : Int) < 4 := by omega
            have hT2 : Hid (partOrd ss m 0 0 f = if partly B = true then (if 0 < s.2 ∧ s.2 < m then false else partOrd ss m (k + 1) (n + 1) (f.drop (k + 1))) else partOrd ss m (k + 1) n (f.drop (k + 1))) := by rw [Hid, hT.out, drop_cons hb, partOrd, hgs]
            have hRa := hRz.alloc (.cells #[.slice Z B.pages.length cz, .int .i64 B.worn] 137)
            have hBa : Below w2.heap.size w2 (wr.alloc (.cells #[.slice Z B.pages.length cz, .int .i64 B.worn] 137)) := hB.alloc hB.size _
            have hsz : (wr.alloc (.cells #[.slice Z B.pages.length cz, .int .i64 B.worn] 137)).heap.size = wr.heap.size + 1 := by simp
            clear hb hT hgs hRz
            go_wp2_with fail
            refine (impl_partlyUsed B Z _ cz _ rfl hpl hRa).mono ?_
            rintro e w3 ⟨rfl, hb3⟩
            have hB3 := hBa.trans (hb3.mono (by have := hB.size; omega))
            obtain ⟨_, a1, _, _⟩ := (hR.below hB3 (Nat.le_refl _)).span hsk
            clear hsk hb3 hBa hRa
            by_cases hpt : partly B = true
            · have hT3 := hT2.out
              rw [if_pos hpt] at hT3
              replace hT3 := Lib.hid hT3
              rw [hpt]
              clear hpt hT2
              by_cases h1 : 0 < s.2
              · by_cases h2 : s.2 < m
                · have hx := hT3.out
                  rw [if_pos ⟨h1, h2⟩] at hx
                  replace hx := Lib.hid hx
                  clear hT3
                  go_wp2
                  go_ret
                  exact ⟨ret_bool (by rw [hfin2.out, hx.out]), hB2.trans (hB3.mono hB2.size)⟩
                · have hx := hT3.out
                  rw [if_neg (fun h => h2 h.2)] at hx
                  replace hx := Lib.hid hx
                  clear hT3
                  go_wp2
                  go_roundw
                  (case rel => exact ⟨k + 1, n + 1, by omega, by omega, by go_num, by go_num, hB3, hx⟩)
                  (case measure => simp [intOf]; omega)
              · have hx := hT3.out
                rw [if_neg (fun h => h1 h.1)] at hx
                replace hx := Lib.hid hx
                clear hT3
                go_wp2
                go_roundw
                (case rel => exact ⟨k + 1, n + 1, by omega, by omega, by go_num, by go_num, hB3, hx⟩)
                (case measure => simp [intOf]; omega)
            · have hx := hT2.out
              rw [if_neg hpt] at hx
              replace hx := Lib.hid hx
              rw [show partly B = false from by simpa using hpt]
              clear hT2 hpt
              go_wp2
              go_roundw
              (case rel => exact ⟨k + 1, n, by omega, by omega, by go_num, rfl, hB3, hx⟩)
              (case measure => simp [intOf]; omega)
          · obtain rfl : k = 4 := by omega
            have hx : Hid (partOrd ss m 0 0 f = decide (n ≤ 1)) := by rw [Hid, hT.out, List.drop_of_length_le (by omega)]; rfl
            have hz : decide ((n : Int) ≤ 1) = decide (n ≤ 1) := by rw [decide_eq_decide]; omega
            replace hz := Lib.hid hz
            clear hT
            go_wp2
            go_ret
            exact ⟨ret_bool (by rw [hfin2.out, hx.out]; exact hz.out), hB2.trans (hB.mono hB2.size)⟩
  · have hok' : flashOk f = false := by simpa using hok
    have hfin : Hid (findOrderI f = false) := by unfold Hid findOrderI; rw [if_neg hok]
    rw [hok']
    go_wp2
    go_ret
    exact ⟨ret_bool (by rw [hfin.out]), hb1⟩
end Go.Proofs.Ytbekihiiildgmaa
namespace Go.Proofs.Ytbekihiiildgmaa
set_option linter.unusedVariables false
set_option linter.unusedSimpArgs false
open Go.RowKit Go.Maps
set_option maxHeartbeats 400000
theorem partGo_some : ∀ {r : List Bk} {i j : Nat}, partGo i r = some j → ∃ m b, j = i + m ∧ r[m]? = some b ∧ partly b = true
  | [], _, _, h => by simp [partGo] at h
  | b :: r, i, j, h => by
    unfold partGo at h
    split at h
    · rename_i hp
      cases h
      exact ⟨0, b, rfl, rfl, hp⟩
    · obtain ⟨m, c, h1, h2, h3⟩ := partGo_some h
      exact ⟨m + 1, c, by omega, by simpa using h2, h3⟩
theorem partGo_none : ∀ {r : List Bk} {i : Nat}, partGo i r = none → ∀ b ∈ r, partly b = false
  | [], _, _ => by simp
  | b :: r, i, h => by
    unfold partGo at h
    split at h
    · cases h
    · rename_i hp
      intro c hc
      rcases List.mem_cons.1 hc with rfl | hc
      · simpa using hp
      · exact partGo_none h c hc
theorem best_true {f : List Bk} : ∀ {r : List Bk} {i best j : Nat} {fd : Bool}, bestGo f i best fd r = (j, true) → (fd = true ∧ j = best) ∨ ∃ m b, j = i + m ∧ r[m]? = some b ∧ clean b = 4
  | [], _, _, _, _, h => by
    unfold bestGo at h
    cases h
    exact .inl ⟨rfl, rfl⟩
  | b :: r, i, best, j, fd, h => by
    unfold bestGo at h
    split at h
    · rename_i hc
      rcases best_true h with ⟨_, rfl⟩ | ⟨m, c, h1, h2, h3⟩
      · exact .inr ⟨0, b, rfl, rfl, hc.1⟩
      · exact .inr ⟨m + 1, c, by omega, by simpa using h2, h3⟩
    · rcases best_true h with h | ⟨m, c, h1, h2, h3⟩
      · exact .inl h
      · exact .inr ⟨m + 1, c, by omega, by simpa using h2, h3⟩
theorem best_false {f : List Bk} : ∀ {r : List Bk} {i best j : Nat} {fd : Bool}, bestGo f i best fd r = (j, false) → fd = false ∧ ∀ b ∈ r, clean b ≠ 4
  | [], _, _, _, _, h => by
    unfold bestGo at h
    cases h
    exact ⟨rfl, by simp⟩
  | b :: r, i, best, j, fd, h => by
    unfold bestGo at h
    split at h
    · exact absurd (best_false h).1 (by simp)
    · rename_i hc
      obtain ⟨h1, h2⟩ := best_false h
      refine ⟨h1, fun c hcm => ?_⟩
      rcases List.mem_cons.1 hcm with rfl | hcm
      · exact fun h4 => hc ⟨h4, .inl h1⟩
      · exact h2 c hcm
theorem part_pos {b : Bk} (h : partly b = true) : 0 < clean b := by unfold partly at h; simp at h; exact h.1
theorem open_true {f : List Bk} (h : (openI f).2 = true) : ∃ (m : Nat) (b : Bk), (openI f).1 = (m : Int) ∧ f[m]? = some b ∧ 0 < clean b := by
  unfold openI at h ⊢
  cases hp : partGo 0 f with
  | some j =>
    obtain ⟨m, b, h1, h2, h3⟩ := partGo_some hp
    have : j = m := by omega
    subst this
    exact ⟨j, b, rfl, h2, part_pos h3⟩
  | none =>
    rw [hp] at h
    dsimp only at h ⊢
    have he : bestGo f 0 0 false f = ((bestGo f 0 0 false f).1, true) := by rw [← h]
    rcases best_true he with ⟨hc, _⟩ | ⟨m, b, h1, h2, h3⟩
    · cases hc
    · have : (bestGo f 0 0 false f).1 = m := by omega
      rw [this]
      exact ⟨m, b, rfl, h2, by omega⟩
theorem open_false {f : List Bk} (hp4 : ∀ b ∈ f, b.pages.length = 4) (h : (openI f).2 = false) : ∀ b ∈ f, clean b = 0 := by
  unfold openI at h
  cases hp : partGo 0 f with
  | some j => rw [hp] at h; cases h
  | none =>
    rw [hp] at h
    dsimp only at h
    have he : bestGo f 0 0 false f = ((bestGo f 0 0 false f).1, false) := Prod.ext rfl h
    have h1 := (best_false he).2
    intro b hb
    have h2 := partGo_none hp b hb
    have h3 := clean_le4 (hp4 b hb)
    have h4 := h1 b hb
    unfold partly at h2
    simp at h2
    omega
theorem clean_new (n : Int) : clean ⟨List.replicate 4 pg0, n⟩ = 4 := by
  show (List.replicate 4 pg0).countP isClean = 4
  decide
end Go.Proofs.Ytbekihiiildgmaa
namespace Go.Proofs.Ytbekihiiildgmaa
set_option linter.unusedVariables false
set_option linter.unusedSimpArgs false
def spn (b : Bk) : Span := (least b, most b)
theorem set_self {α : Type} {d : α} : ∀ {l : List α} {i : Nat}, i < l.length → l.set i (l.getD i d) = l
  | [], i, h => by simp at h
  | a :: l, 0, _ => by simp
  | a :: l, i + 1, h => by
    rw [List.set_cons_succ]
    have := set_self (d := d) (l := l) (i := i) (by simpa using h)
    simpa using this
theorem tag_sp : ∀ (ps : List Pg) (j i : Nat) (ss : List Span), i < ss.length → (∀ p ∈ ps, pageOk p = true) → 0 ≤ (ss.getD i (0, 0)).2 →
    (tagFrom i j ps).foldl spStep ss = ss.set i (ps.foldl leastStep (ss.getD i (0, 0)).1, mostPs (ss.getD i (0, 0)).2 ps)
  | [], j, i, ss, hi, _, _ => by
    show ss = ss.set i ((ss.getD i (0, 0)).1, (ss.getD i (0, 0)).2)
    exact (set_self hi).symm
  | p :: ps, j, i, ss, hi, hp, h => by
    have ho := hp p (List.mem_cons_self ..)
    have hps := fun q hq => hp q (List.mem_cons_of_mem _ hq)
    rw [tagFrom, List.foldl_cons]
    by_cases h1 : p.state = 1
    · have hr := recOk_addr (rec_of_written ho h1)
      have e1 : spStep ss (i, j, p) = ss.set i (leastStep (ss.getD i (0, 0)).1 p, max (ss.getD i (0, 0)).2 p.rc.seq) := by
        unfold spStep
        dsimp only
        rw [if_pos h1]
        congr 2
        unfold lowOf leastStep
        split
        · rename_i hc; rw [if_pos ⟨by omega, hc⟩]
        · rename_i hc; rw [if_neg (fun e => hc e.2)]
      have hg : (ss.set i (leastStep (ss.getD i (0, 0)).1 p, max (ss.getD i (0, 0)).2 p.rc.seq)).getD i (0, 0) = (leastStep (ss.getD i (0, 0)).1 p, max (ss.getD i (0, 0)).2 p.rc.seq) := by
        rw [List.getD_eq_getElem?_getD, List.getElem?_set_self hi]; rfl
      rw [e1, tag_sp ps (j + 1) i _ (by rw [List.length_set]; exact hi) hps (by rw [hg]; dsimp only; omega), hg, List.set_set]
      rfl
    · have h0 := clean_seq ho h1
      have e1 : spStep ss (i, j, p) = ss := by unfold spStep; dsimp only; rw [if_neg h1]
      have e2 : leastStep (ss.getD i (0, 0)).1 p = (ss.getD i (0, 0)).1 := by unfold leastStep; rw [if_neg (by rintro ⟨h, _⟩; omega)]
      have e3 : mostPs (ss.getD i (0, 0)).2 (p :: ps) = mostPs (ss.getD i (0, 0)).2 ps := by
        show mostPs (max (ss.getD i (0, 0)).2 p.rc.seq) ps = _
        rw [show max (ss.getD i (0, 0)).2 p.rc.seq = (ss.getD i (0, 0)).2 by omega]
      rw [e1, tag_sp ps (j + 1) i ss hi hps h, List.foldl_cons, e2, e3]
theorem all_sp : ∀ (f : List Bk) (pre : List Span), (∀ b ∈ f, ∀ p ∈ b.pages, pageOk p = true) → (allFrom pre.length f).foldl spStep (pre ++ List.replicate f.length (0, 0)) = pre ++ f.map spn
  | [], pre, _ => rfl
  | b :: f, pre, hp => by
    have hg : (pre ++ List.replicate (f.length + 1) ((0, 0) : Span)).getD pre.length (0, 0) = (0, 0) := by
      rw [List.getD_eq_getElem?_getD, List.getElem?_append_right (Nat.le_refl _)]; simp
    rw [allFrom, List.foldl_append, List.length_cons, tag_sp b.pages 0 pre.length _ (by simp) (hp b (List.mem_cons_self ..)) (by rw [hg]; exact Int.le_refl _), hg]
    have e1 : (pre ++ List.replicate (f.length + 1) ((0, 0) : Span)).set pre.length (b.pages.foldl leastStep 0, mostPs 0 b.pages) = (pre ++ [spn b]) ++ List.replicate f.length (0, 0) := by
      rw [List.set_append_right _ _ (Nat.le_refl _), Nat.sub_self, List.replicate_succ, List.set_cons_zero]
      simp [spn, least, most]
    have e2 : (pre ++ [spn b]).length = pre.length + 1 := by simp
    have ih := all_sp f (pre ++ [spn b]) (fun c hc => hp c (List.mem_cons_of_mem _ hc))
    rw [e2] at ih
    dsimp only
    rw [e1, ih]
    simp
theorem spOf_eq {f : List Bk} (h : flashOk f = true) : spOf (allFrom 0 f) = f.map spn := by
  have := all_sp f [] (fun b hb => (bk_parts h hb).2.2.2)
  rw [flashOk_len h] at this
  exact this
theorem ordGo_some {ss : List Span} : ∀ (r : List Span) (i : Nat) (n m : Int), ordGo ss i n r = some m ↔ (∀ (k : Nat) (a : Span), r[k]? = some a → ∀ (j : Nat) (b : Span), j < i + k → ss[j]? = some b → spClash a b = false) ∧ m = r.foldl (fun n a => max n a.2) n
  | [], i, n, m => by
    unfold ordGo
    constructor
    · intro h; cases h; exact ⟨fun k a hk => by simp at hk, rfl⟩
    · rintro ⟨_, rfl⟩; rfl
  | a :: r, i, n, m => by
    unfold ordGo
    have ht : (ss.take i).any (spClash a) = true ↔ ∃ (j : Nat) (b : Span), j < i ∧ ss[j]? = some b ∧ spClash a b = true := by
      rw [List.any_eq_true]
      constructor
      · rintro ⟨b, hb, h⟩
        obtain ⟨j, hj⟩ := List.mem_iff_getElem?.1 hb
        rw [List.getElem?_take] at hj
        split at hj
        · rename_i hlt; exact ⟨j, b, hlt, hj, h⟩
        · cases hj
      · rintro ⟨j, b, hj, hb, h⟩
        exact ⟨b, List.mem_iff_getElem?.2 ⟨j, by rw [List.getElem?_take, if_pos hj]; exact hb⟩, h⟩
    by_cases hc : (ss.take i).any (spClash a) = true
    · rw [if_pos hc]
      obtain ⟨j, b, hj, hb, h⟩ := ht.1 hc
      constructor
      · intro h; cases h
      · rintro ⟨h1, _⟩
        have := h1 0 a rfl j b (by omega) hb
        rw [h] at this; cases this
    · rw [if_neg hc, ordGo_some r (i + 1) _ m, List.foldl_cons]
      constructor
      · rintro ⟨h1, h2⟩
        refine ⟨fun k x hk j b hj hb => ?_, h2⟩
        cases k with
        | zero =>
          rw [List.getElem?_cons_zero, Option.some.injEq] at hk
          subst hk
          by_cases hx : spClash a b = true
          · exact absurd (ht.2 ⟨j, b, by omega, hb, hx⟩) hc
          · simpa using hx
        | succ k => exact h1 k x (by simpa using hk) j b (by omega) hb
      · rintro ⟨h1, h2⟩
        exact ⟨fun k x hk j b hj hb => h1 (k + 1) x (by simpa using hk) j b (by omega) hb, h2⟩
theorem partOrd_iff {ss : List Span} {n : Int} : ∀ (r : List Bk) (i c : Nat), partOrd ss n i c r = true ↔ (∀ (k : Nat) (b : Bk), r[k]? = some b → partly b = true → ¬ (0 < (ss.getD (i + k) (0, 0)).2 ∧ (ss.getD (i + k) (0, 0)).2 < n)) ∧ c + r.countP partly ≤ 1
  | [], i, c => by unfold partOrd; simp
  | b :: r, i, c => by
    unfold partOrd
    rw [List.countP_cons]
    by_cases hb : partly b = true
    · rw [if_pos hb, if_pos hb]
      by_cases hx : 0 < (ss.getD i (0, 0)).2 ∧ (ss.getD i (0, 0)).2 < n
      · rw [if_pos hx]
        constructor
        · intro h; cases h
        · rintro ⟨h1, _⟩; exact absurd hx (h1 0 b rfl hb)
      · rw [if_neg hx, partOrd_iff r (i + 1) (c + 1)]
        constructor
        · rintro ⟨h1, h2⟩
          refine ⟨fun k x hk hp => ?_, by omega⟩
          cases k with
          | zero => exact hx
          | succ k => have := h1 k x (by simpa using hk) hp; rwa [show i + 1 + k = i + (k + 1) by omega] at this
        · rintro ⟨h1, h2⟩
          exact ⟨fun k x hk hp => by have := h1 (k + 1) x (by simpa using hk) hp; rwa [show i + (k + 1) = i + 1 + k by omega] at this, by omega⟩
    · rw [if_neg hb, if_neg hb, partOrd_iff r (i + 1) c]
      constructor
      · rintro ⟨h1, h2⟩
        refine ⟨fun k x hk hp => ?_, by omega⟩
        cases k with
        | zero => rw [List.getElem?_cons_zero, Option.some.injEq] at hk; subst hk; exact absurd hp hb
        | succ k => have := h1 k x (by simpa using hk) hp; rwa [show i + 1 + k = i + (k + 1) by omega] at this
      · rintro ⟨h1, h2⟩
        exact ⟨fun k x hk hp => by have := h1 (k + 1) x (by simpa using hk) hp; rwa [show i + (k + 1) = i + 1 + k by omega] at this, by omega⟩
theorem count_one {α : Type} {p : α → Bool} : ∀ (l : List α), l.countP p ≤ 1 ↔ ∀ (i j : Nat) (a b : α), i ≠ j → l[i]? = some a → l[j]? = some b → p a = true → p b = false
  | [] => by simp
  | x :: l => by
    rw [List.countP_cons]
    by_cases hx : p x = true
    · rw [if_pos hx]
      constructor
      · intro h i j a b hij ha hb hp
        have h0 : l.countP p = 0 := by omega
        rw [List.countP_eq_zero] at h0
        cases j with
        | zero =>
          cases i with
          | zero => exact absurd rfl hij
          | succ i => exact absurd hp (h0 a (List.mem_of_getElem? (by simpa using ha)))
        | succ j => simpa using h0 b (List.mem_of_getElem? (by simpa using hb))
      · intro h
        have h0 : l.countP p = 0 := by
          rw [List.countP_eq_zero]
          intro a ha
          obtain ⟨j, hj⟩ := List.mem_iff_getElem?.1 ha
          have := h 0 (j + 1) x a (by omega) rfl (by simpa using hj) hx
          rw [this]; simp
        omega
    · rw [if_neg hx, Nat.add_zero, count_one l]
      constructor
      · intro h i j a b hij ha hb hp
        cases i with
        | zero => rw [List.getElem?_cons_zero, Option.some.injEq] at ha; subst ha; exact absurd hp hx
        | succ i =>
          cases j with
          | zero => rw [List.getElem?_cons_zero, Option.some.injEq] at hb; subst hb; simpa using hx
          | succ j => exact h i j a b (by omega) (by simpa using ha) (by simpa using hb) hp
      · intro h i j a b hij ha hb hp
        exact h (i + 1) (j + 1) a b (by omega) (by simpa using ha) (by simpa using hb) hp
/-- the blocks were written one behind the other -/
structure Ord (f : List Bk) : Prop where
  apart : ∀ (i j : Nat) (a b : Bk), i ≠ j → f[i]? = some a → f[j]? = some b → 0 < most a → 0 < most b → ¬ (least a < most b ∧ least b < most a)
  begun : ∀ (i j : Nat) (a b : Bk), i ≠ j → f[i]? = some a → f[j]? = some b → partly a = true → partly b = false ∧ (0 < most a → most b ≤ most a)
theorem topSeq_le {M : Int} : ∀ {f : List Bk} {n : Int}, n ≤ M → (∀ b ∈ f, most b ≤ M) → f.foldl (fun n b => max n (most b)) n ≤ M
  | [], _, h, _ => h
  | b :: f, n, h, hb => by
    rw [List.foldl_cons]
    exact topSeq_le (by have := hb b (List.mem_cons_self ..); omega) (fun c hc => hb c (List.mem_cons_of_mem _ hc))
theorem le_topSeq0 : ∀ {f : List Bk} {n : Int}, n ≤ f.foldl (fun n b => max n (most b)) n
  | [], n => Int.le_refl n
  | b :: f, n => by
    rw [List.foldl_cons]
    have := le_topSeq0 (f := f) (n := max n (most b))
    omega
theorem le_topSeq {b : Bk} : ∀ {f : List Bk} {n : Int}, b ∈ f → most b ≤ f.foldl (fun n b => max n (most b)) n
  | a :: f, n, h => by
    rw [List.foldl_cons]
    rcases List.mem_cons.1 h with rfl | h
    · have := le_topSeq0 (f := f) (n := max n (most b))
      omega
    · exact le_topSeq h
theorem clash_iff {f : List Bk} (h : flashOk f = true) {i j : Nat} {a b : Bk} (hij : i ≠ j) (ha : f[i]? = some a) (hb : f[j]? = some b) : spClash (spn a) (spn b) = false ↔ ¬ (0 < most a ∧ 0 < most b ∧ least a < most b ∧ least b < most a) := by
  have pa := (bk_parts h (List.mem_of_getElem? ha)).2.2.2
  have pb := (bk_parts h (List.mem_of_getElem? hb)).2.2.2
  have hn := ((flashOk_iff f).1 h).2.2
  have key : spClash (spn a) (spn b) = true ↔ (0 < most a ∧ 0 < most b ∧ least a < most b ∧ least b < most a) := by
    unfold spClash spn
    simp only [Bool.and_eq_true, decide_eq_true_iff]
    constructor
    · rintro ⟨h1, h2, h3, h4⟩
      have e1 : least b ≠ most a := fun e => seqs_apart hn hij ha hb (most_mem pa h1) (e ▸ least_mem pb h2)
      have e2 : least a ≠ most b := fun e => seqs_apart hn hij ha hb (least_mem pa h1) (e ▸ most_mem pb h2)
      exact ⟨h1, h2, by omega, by omega⟩
    · rintro ⟨h1, h2, h3, h4⟩
      exact ⟨h1, h2, by omega, by omega⟩
  rw [← key]
  cases spClash (spn a) (spn b) <;> simp
theorem findOrderI_iff {f : List Bk} (h : flashOk f = true) : findOrderI f = true ↔ Ord f := by
  have hge : ∀ k b, f[k]? = some b → ((f.map spn).getD k (0, 0)).2 = most b := fun k b hb => by rw [List.getD_eq_getElem?_getD, List.getElem?_map, hb]; rfl
  have htop : ∀ n : Int, (f.map spn).foldl (fun n a => max n a.2) n = f.foldl (fun n b => max n (most b)) n := fun n => by rw [List.foldl_map]; rfl
  have hord : ∀ m : Int, ordGo (f.map spn) 0 0 (f.map spn) = some m ↔ (∀ (i j : Nat) (a b : Bk), i ≠ j → f[i]? = some a → f[j]? = some b → 0 < most a → 0 < most b → ¬ (least a < most b ∧ least b < most a)) ∧ m = topSeq f := fun m => by
    rw [ordGo_some, htop]
    unfold topSeq
    constructor
    · rintro ⟨h1, h2⟩
      refine ⟨fun i j a b hij ha hb p1 p2 hc => ?_, h2⟩
      rcases Nat.lt_or_gt_of_ne hij with hlt | hlt
      · have := h1 j (spn b) (by rw [List.getElem?_map, hb]; rfl) i (spn a) (by omega) (by rw [List.getElem?_map, ha]; rfl)
        exact (clash_iff h (Ne.symm hij) hb ha).1 this ⟨p2, p1, hc.2, hc.1⟩
      · have := h1 i (spn a) (by rw [List.getElem?_map, ha]; rfl) j (spn b) (by omega) (by rw [List.getElem?_map, hb]; rfl)
        exact (clash_iff h hij ha hb).1 this ⟨p1, p2, hc.1, hc.2⟩
    · rintro ⟨h1, h2⟩
      refine ⟨fun k x hk j y hj hy => ?_, h2⟩
      rw [List.getElem?_map] at hk hy
      obtain ⟨a, ha, rfl⟩ := Option.map_eq_some_iff.1 hk
      obtain ⟨b, hb, rfl⟩ := Option.map_eq_some_iff.1 hy
      exact (clash_iff h (by omega) ha hb).2 (fun ⟨p1, p2, p3⟩ => h1 k j a b (by omega) ha hb p1 p2 p3)
  unfold findOrderI ordI
  rw [if_pos h, spOf_eq h]
  have hpart : partOrd (f.map spn) (topSeq f) 0 0 f = true ↔ ∀ (i j : Nat) (a b : Bk), i ≠ j → f[i]? = some a → f[j]? = some b → partly a = true → partly b = false ∧ (0 < most a → most b ≤ most a) := by
    rw [partOrd_iff, Nat.zero_add, count_one]
    constructor
    · rintro ⟨h1, h2⟩ i j a b hij ha hb hp
      refine ⟨h2 i j a b hij ha hb hp, fun h0 => ?_⟩
      have := h1 i a ha hp
      rw [Nat.zero_add, hge i a ha] at this
      have h3 : most b ≤ topSeq f := le_topSeq (List.mem_of_getElem? hb)
      omega
    · intro h1
      refine ⟨fun k a ha hp => ?_, fun i j a b hij ha hb hp => (h1 i j a b hij ha hb hp).1⟩
      rw [Nat.zero_add, hge k a ha]
      rintro ⟨h2, h3⟩
      have : topSeq f ≤ most a := topSeq_le (by omega) (fun b hb => by
        obtain ⟨j, hj⟩ := List.mem_iff_getElem?.1 hb
        by_cases hkj : k = j
        · subst hkj
          rw [ha, Option.some.injEq] at hj
          rw [hj]; exact Int.le_refl _
        · exact (h1 k j a b hkj ha hj hp).2 h2)
      omega
  cases ho : ordGo (f.map spn) 0 0 (f.map spn) with
  | none =>
    constructor
    · intro h; cases h
    · intro hO
      have := (hord (topSeq f)).2 ⟨hO.apart, rfl⟩
      rw [ho] at this; cases this
  | some m =>
    obtain ⟨h1, rfl⟩ := (hord m).1 ho
    dsimp only
    rw [hpart]
    exact ⟨fun h2 => ⟨h1, h2⟩, fun h2 => h2.begun⟩
theorem rowOrd_iff {i : Nat} {a : Bk} : ∀ (r : List Bk) (k : Nat), rowOrd i a k r = true ↔ ∀ (j : Nat) (b : Bk), r[j]? = some b → bad1 i (k + j) a b = false ∧ bad2 i (k + j) a b = false
  | [], k => by simp [rowOrd]
  | b :: r, k => by
    unfold rowOrd
    by_cases hc : bad1 i k a b = true ∨ bad2 i k a b = true
    · rw [if_pos hc]
      constructor
      · intro h; cases h
      · intro h
        have := h 0 b rfl
        rw [Nat.add_zero] at this
        rcases hc with hc | hc
        · rw [this.1] at hc; cases hc
        · rw [this.2] at hc; cases hc
    · rw [if_neg hc, rowOrd_iff r (k + 1)]
      constructor
      · intro h j x hj
        cases j with
        | zero =>
          rw [List.getElem?_cons_zero, Option.some.injEq] at hj
          subst hj
          rw [Nat.add_zero]
          exact ⟨by simpa using fun e => hc (.inl e), by simpa using fun e => hc (.inr e)⟩
        | succ j => have := h j x (by simpa using hj); rwa [show k + 1 + j = k + (j + 1) by omega] at this
      · intro h j x hj
        have := h (j + 1) x (by simpa using hj)
        rwa [show k + (j + 1) = k + 1 + j by omega] at this
theorem allOrd_iff {f : List Bk} : ∀ (r : List Bk) (i : Nat), allOrd f i r = true ↔ ∀ (k : Nat) (a : Bk), r[k]? = some a → rowOrd (i + k) a 0 f = true
  | [], i => by simp [allOrd]
  | a :: r, i => by
    unfold allOrd
    by_cases hc : rowOrd i a 0 f = true
    · rw [if_pos hc, allOrd_iff r (i + 1)]
      constructor
      · intro h k x hk
        cases k with
        | zero =>
          rw [List.getElem?_cons_zero, Option.some.injEq] at hk
          subst hk
          exact hc
        | succ k => have := h k x (by simpa using hk); rwa [show i + 1 + k = i + (k + 1) by omega] at this
      · intro h k x hk
        have := h (k + 1) x (by simpa using hk)
        rwa [show i + (k + 1) = i + 1 + k by omega] at this
    · rw [if_neg hc]
      constructor
      · intro h; cases h
      · intro h; exact absurd (h 0 a rfl) hc
theorem findOrder_iff {f : List Bk} (h : flashOk f = true) : findOrder f = true ↔ Ord f := by
  unfold findOrder
  rw [if_pos h, allOrd_iff]
  constructor
  · intro hA
    have hb : ∀ (i j : Nat) (a b : Bk), f[i]? = some a → f[j]? = some b → bad1 i j a b = false ∧ bad2 i j a b = false := fun i j a b ha hb => by
      have h1 := (rowOrd_iff f 0).1 (by have := hA i a ha; rwa [Nat.zero_add] at this) j b hb
      rwa [Nat.zero_add] at h1
    refine ⟨fun i j a b hij ha hb' p1 p2 p3 => ?_, fun i j a b hij ha hb' hp => ?_⟩
    · have := (hb i j a b ha hb').1
      unfold bad1 at this
      simp [hij, p1, p2, p3.1, p3.2] at this
    · have := (hb i j a b ha hb').2
      unfold bad2 at this
      simp [hij, hp] at this
      exact this
  · intro hO k a ha
    rw [Nat.zero_add, rowOrd_iff]
    intro j b hb
    rw [Nat.zero_add]
    constructor
    · unfold bad1
      by_cases hij : k = j
      · simp [hij]
      · have := hO.apart k j a b hij ha hb
        simp [hij]
        omega
    · unfold bad2
      by_cases hij : k = j
      · simp [hij]
      · by_cases hp : partly a = true
        · have := hO.begun k j a b hij ha hb hp
          simp [hij, hp, this.1]
          omega
        · simp [hp]
theorem findOrder_eq (f : List Bk) : findOrderI f = findOrder f := by
  by_cases h : flashOk f = true
  · have := (findOrderI_iff h).trans (findOrder_iff h).symm
    cases h1 : findOrderI f <;> cases h2 : findOrder f <;> simp [h1, h2] at this ⊢
  · unfold findOrderI findOrder; rw [if_neg h, if_neg h]
theorem order_ok {f : List Bk} (h : findOrderI f = true) : flashOk f = true := by
  unfold findOrderI at h
  split at h
  · assumption
  · cases h
end Go.Proofs.Ytbekihiiildgmaa
namespace Go.Proofs.Ytbekihiiildgmaa
set_option linter.unusedVariables false
set_option linter.unusedSimpArgs false
open Go.RowKit Go.Maps
set_option maxHeartbeats 400000
/-- of a clean last record the slow disk has the value -/
def diskBad (f : List Bk) (i : Nat) (v : Int) : Prop := 0 < (last f ((i : Int) + 1)).seq ∧ (last f ((i : Int) + 1)).kind = 2 ∧ (last f ((i : Int) + 1)).val ≠ v
instance (f : List Bk) (i : Nat) (v : Int) : Decidable (diskBad f i v) := by unfold diskBad; infer_instance
def diskGo (f : List Bk) : Nat → List Int → Bool
  | _, [] => true
  | i, v :: r => if valB v = true then (if diskBad f i v then false else diskGo f (i + 1) r) else false
def storeOk (s : St) : Bool := if s.disk.length = 6 then (if findOrderI s.flash = true then diskGo s.flash 0 s.disk else false) else false
theorem impl_isDirty (r : Rc) (w : World) : Calls Try.prog 69 #[.agg #[.int .i64 r.kind, .int .i64 r.seq, .int .i64 r.addr, .int .i64 r.val]] w fun e w' => e = .returned (.bool (decide (r.kind = 1))) ∧ Below w.heap.size w w' := by
  go_enter Try.func69, Try.ntmps69
  go_wp2
  go_ret
  exact ⟨ret_bool (by rw [Bool.eq_iff_iff]; simp), by (repeat (first | (with_reducible exact Below.refl _ _) | (with_reducible assumption) | (refine Below.setCell ?_ (by first | omega | exact hB.size | exact hb.size | (have h := hB.size; simp; omega) | (have h := hb.size; simp; omega) | (simp; omega) | simp) _) | (refine Below.alloc ?_ (by first | omega | exact hB.size | exact hb.size | (have h := hB.size; simp; omega) | (have h := hb.size; simp; omega) | (simp; omega) | simp) _) | (refine Below.drew ?_)))⟩
theorem ints_ne' {xs : List Int} (h : xs ≠ []) : ints xs ≠ [] := fun e => h (by
  have := congrArg List.length e
  rw [ints_len] at this
  exact List.length_eq_zero_iff.1 this)
theorem foundR_some {r : Rc} (h : 0 < r.seq) : foundR r = some r := by unfold foundR; rw [if_pos h]
theorem foundR_none {r : Rc} (h : ¬ 0 < r.seq) : foundR r = none := by unfold foundR; rw [if_neg h]
theorem last_pages {f : List Bk} (h : flashOk f = true) : ∀ b ∈ f, ∀ p ∈ b.pages, pageOk p = true := fun b hb => (bk_parts h hb).2.2.2
theorem last_kind {f : List Bk} (h : flashOk f = true) {a : Int} (h0 : 0 < (last f a).seq) : (last f a).kind = 1 ∨ (last f a).kind = 2 := by
  have := (last_found (last_pages h) h0).1
  unfold recOk kindB at this
  simp at this
  omega
set_option maxHeartbeats 4000000 in
set_option maxRecDepth 100000 in
theorem impl_StoreOk (s : St) (A D : Option Addr) (n m c d : Nat) (w : World) (hn : n = s.flash.length) (hm : m = s.disk.length) (hF : Fl w A s.flash) (hD : Row w D (ints s.disk)) :
    Calls Try.prog 21 #[.agg #[.slice A n c, .slice D m d]] w fun e w' => e = .returned (.bool (storeOk s)) ∧ Below w.heap.size w w' := by
  subst hn; subst hm
  have hB0 : Below w.heap.size w (w.alloc (.cells #[.slice A s.flash.length c, .slice D s.disk.length d] 26)) := (Below.refl _ _).alloc (Nat.le_refl _) _
  have hF0 := hF.below hB0 (Nat.le_refl _)
  have hD0 := hD.below hB0 (Nat.le_refl _)
  by_cases h6 : s.disk.length = 6
  · have H6 := Lib.hid h6
    have hfin : Hid (storeOk s = if findOrderI s.flash = true then diskGo s.flash 0 s.disk else false) := by unfold Hid storeOk; rw [if_pos h6]
    obtain ⟨db, dO, rfl⟩ := hD.addr (ints_ne' (by intro e; rw [e] at h6; simp at h6))
    rw [h6] at hB0 hF0 hD0 ⊢
    clear h6
    go_enter Try.func21, Try.ntmps21
    go_wp2_with fail
    refine (impl_FindOrder s.flash A _ c _ rfl hF0).mono ?_
    rintro e w1 ⟨rfl, hb⟩
    have hs1 := hb.size
    simp only [World.size_alloc] at hs1
    have x0 : w1.cell? ⟨w.heap.size, 0, none⟩ = some (.slice A s.flash.length c) := (hb.cell (p := ⟨w.heap.size, 0, none⟩) (by simp)).trans (by simp)
    have x1 : w1.cell? ⟨w.heap.size, 1, none⟩ = some (.slice (some ⟨db, dO, none⟩) 6 d) := (hb.cell (p := ⟨w.heap.size, 1, none⟩) (by simp)).trans (by simp)
    have hF1 := hF0.below hb (Nat.le_refl _)
    have hD1 := hD0.below hb (Nat.le_refl _)
    have hB1 := hB0.trans (hb.mono (by simp))
    clear hb hF0 hD0 hB0
    by_cases hord : findOrderI s.flash = true
    · have hok := order_ok hord
      have hfin2 : Hid (storeOk s = diskGo s.flash 0 s.disk) := by rw [Hid, hfin.out, if_pos hord]
      have hlm := Lib.hid (fun a => lastMap_eq hok a)
      have hkd := Lib.hid (fun a h => last_kind (a := a) hok h)
      have hrc := Lib.hid (fun a h => last_found (a := a) (last_pages hok) h)
      rw [hord]
      clear hord hfin
      go_wp2_with fail
      refine (impl_lastRecords s.flash A _ c _ rfl hok hF1).mono ?_
      rintro e w2 ⟨rfl, hM, hb⟩
      have hs2 := hb.size
      replace x0 := (hb.cell (p := ⟨w.heap.size, 0, none⟩) (by show w.heap.size < _; omega)).trans x0
      replace x1 := (hb.cell (p := ⟨w.heap.size, 1, none⟩) (by show w.heap.size < _; omega)).trans x1
      have hD2 := hD1.below hb (Nat.le_refl _)
      have hB2 := hB1.trans (hb.mono (by omega))
      have hMl := hM.lt
      clear hb hF1 hD1 hB1 hok
      go_wp2
      go_loopw [25] (fun i wr => ∃ k : Nat, k ≤ 6 ∧ i = .int .i64 k ∧ Below w2.heap.size w2 wr ∧ Hid (diskGo s.flash 0 s.disk = diskGo s.flash k (s.disk.drop k))) (fun i _ => 6 - (intOf i).toNat)
      case atStart => exact ⟨0, by omega, rfl, Below.refl _ _, rfl⟩
      case round =>
        obtain ⟨k, hk, rfl, hB, hT⟩ := hrel
        by_cases hlt : k < 6
        · obtain ⟨v, hv⟩ := get_some (l := s.disk) (k := k) (by rw [H6.out]; exact hlt)
          obtain ⟨cv, _⟩ := (hD2.below hB (Nat.le_refl _)).int_ hv
          have hk1 : (k : Int) < 6 := by omega
          have e1 : IntKind.i64.wrap ((k : Int) + 1) = (k : Int) + 1 := IntWalk.i64_in _ (by omega)
          have hT2 : Hid (diskGo s.flash 0 s.disk = if valB v = true then (if diskBad s.flash k v then false else diskGo s.flash (k + 1) (s.disk.drop (k + 1))) else false) := by rw [Hid, hT.out, drop_cons hv, diskGo]
          have hlk := (hM.below hB hMl).look_ok (t := 86) Try.underlying86 Try.underlying3 zero_rec (k := (k : Int) + 1) (wf_int (by omega))
          rw [hlm.out] at hlk
          have hkdk := Lib.hid (hkd.out ((k : Int) + 1))
          have hdb : Hid (diskBad s.flash k v ↔ (0 < (last s.flash ((k : Int) + 1)).seq ∧ (last s.flash ((k : Int) + 1)).kind = 2 ∧ (last s.flash ((k : Int) + 1)).val ≠ v)) := Iff.rfl
          generalize last s.flash ((k : Int) + 1) = r at *
          unfold rcV at hlk
          clear hv hT
          by_cases hvo : valB v = true
          · have hT3 := hT2.out
            rw [if_pos hvo] at hT3
            replace hT3 := Lib.hid hT3
            have hval := impl_valOk v wr
            rw [hvo] at hval
            clear hvo hT2
            by_cases hr : 0 < r.seq
            · rw [foundR_some hr] at hlk
              simp only [Option.getD_some, Option.isSome_some] at hlk
              have hBa : Below w2.heap.size w2 (wr.alloc (.cells #[.int .i64 r.kind, .int .i64 r.seq, .int .i64 r.addr, .int .i64 r.val] 45)) := hB.alloc hB.size _
              go_wp2_with fail
              refine hval.mono ?_
              rintro e w3 ⟨rfl, rfl⟩
              go_wp2_with fail
              refine (impl_isDirty r _).mono ?_
              rintro e w3 ⟨rfl, hb3⟩
              have y3 : w3.cell? ⟨wr.heap.size, 3, none⟩ = some (.int .i64 r.val) := (hb3.cell (p := ⟨wr.heap.size, 3, none⟩) (by simp)).trans (by simp)
              have hB3 := hBa.trans (hb3.mono (by have := hB.size; simp; omega))
              clear hb3 hBa hlk
              by_cases h1 : r.kind = 1
              · have hx := hT3.out
                rw [if_neg (fun e => by have := (hdb.out.1 e).2.1; omega)] at hx
                replace hx := Lib.hid hx
                rw [show decide (r.kind = 1) = true from decide_eq_true h1]
                clear hT3 h1
                go_wp2
                go_roundw
                (case rel => exact ⟨k + 1, by omega, by go_num, hB3, hx⟩)
                (case measure => simp [intOf]; omega)
              · have h2 : r.kind = 2 := by rcases hkdk.out hr with h | h; exact absurd h h1; exact h
                rw [show decide (r.kind = 1) = false from decide_eq_false h1]
                by_cases h3 : r.val = v
                · have hx := hT3.out
                  rw [if_neg (fun e => (hdb.out.1 e).2.2 h3)] at hx
                  replace hx := Lib.hid hx
                  have h3' : (r.val != v) = false := by rw [bne_eq_false_iff_eq]; exact h3
                  clear hT3 h1 h2 h3
                  go_wp2
                  go_roundw
                  (case rel => exact ⟨k + 1, by omega, by go_num, hB3, hx⟩)
                  (case measure => simp [intOf]; omega)
                · have hx := hT3.out
                  rw [if_pos (hdb.out.2 ⟨hr, h2, h3⟩)] at hx
                  replace hx := Lib.hid hx
                  have h3' : (r.val != v) = true := by rw [bne_iff_ne]; exact h3
                  clear hT3 h1 h2 h3
                  go_wp2
                  go_ret
                  exact ⟨ret_bool (by rw [hfin2.out, hx.out]), hB2.trans (hB3.mono (by omega))⟩
            · simp only [foundR_none hr, Option.getD_none, Option.isSome_none, rc0] at hlk
              have hx := hT3.out
              rw [if_neg (fun e => hr (hdb.out.1 e).1)] at hx
              replace hx := Lib.hid hx
              have hBa : Below w2.heap.size w2 (wr.alloc (.cells #[.int .i64 0, .int .i64 0, .int .i64 0, .int .i64 0] 45)) := hB.alloc hB.size _
              clear hT3
              go_wp2_with fail
              refine hval.mono ?_
              rintro e w3 ⟨rfl, rfl⟩
              go_wp2
              go_roundw
              (case rel => exact ⟨k + 1, by omega, by go_num, hBa, hx⟩)
              (case measure => simp [intOf]; omega)
          · have hx := hT2.out
            rw [if_neg hvo] at hx
            replace hx := Lib.hid hx
            have hval := impl_valOk v wr
            rw [show valB v = false from by simpa using hvo] at hval
            clear hvo hT2 hlk
            go_wp2_with fail
            refine hval.mono ?_
            rintro e w3 ⟨rfl, rfl⟩
            go_wp2
            go_ret
            exact ⟨ret_bool (by rw [hfin2.out, hx.out]), hB2.trans (hB.mono (by omega))⟩
        · have hk4 : (6 : Int) ≤ (k : Int) := by omega
          have hx : Hid (diskGo s.flash 0 s.disk = true) := by rw [Hid, hT.out, List.drop_of_length_le (by rw [H6.out]; omega)]; rfl
          clear hT
          go_wp2
          go_ret
          exact ⟨ret_bool (by rw [hfin2.out, hx.out]), hB2.trans (hB.mono (by omega))⟩
    · have hfin2 : Hid (storeOk s = false) := by rw [Hid, hfin.out, if_neg hord]
      rw [show findOrderI s.flash = false from by simpa using hord]
      clear hord
      go_wp2
      go_ret
      exact ⟨ret_bool hfin2.out.symm, hB1⟩
  · have hfin : Hid (storeOk s = false) := by unfold Hid storeOk; rw [if_neg h6]
    have h6' : ((s.disk.length : Int) != 6) = true := by rw [bne_iff_ne]; omega
    clear h6
    go_enter Try.func21, Try.ntmps21
    go_wp2
    go_ret
    exact ⟨ret_bool hfin.out.symm, hB0⟩
end Go.Proofs.Ytbekihiiildgmaa
namespace Go.Proofs.Ytbekihiiildgmaa
set_option linter.unusedVariables false
set_option linter.unusedSimpArgs false
open Go.RowKit Go.Maps
set_option maxHeartbeats 400000
set_option maxHeartbeats 8000000 in
set_option maxRecDepth 100000 in
theorem spec_StoreOk (s : St) (A D : Option Addr) (n m c d : Nat) (w : World) (hn : n = s.flash.length) (hm : m = s.disk.length) (hl : s.flash.length < 1000000000000) (hF : Fl w A s.flash) (hD : Row w D (ints s.disk)) :
    Calls Try.prog 19 #[.agg #[.slice A n c, .slice D m d]] w fun e w' => e = .returned (.bool (storeOk s)) ∧ Below w.heap.size w w' := by
  subst hn; subst hm
  have hB0 : Below w.heap.size w (w.alloc (.cells #[.slice A s.flash.length c, .slice D s.disk.length d] 26)) := (Below.refl _ _).alloc (Nat.le_refl _) _
  have hF0 := hF.below hB0 (Nat.le_refl _)
  have hD0 := hD.below hB0 (Nat.le_refl _)
  go_enter Try.func19, Try.ntmps19
  go_wp2_with fail
  refine (spec_FindOrder s.flash A _ c _ rfl hl hF0).mono ?_
  rw [← findOrder_eq]
  rintro e w1 ⟨rfl, hb⟩
  have hs1 := hb.size
  simp only [World.size_alloc] at hs1
  have x0 : w1.cell? ⟨w.heap.size, 0, none⟩ = some (.slice A s.flash.length c) := (hb.cell (p := ⟨w.heap.size, 0, none⟩) (by simp)).trans (by simp)
  have x1 : w1.cell? ⟨w.heap.size, 1, none⟩ = some (.slice D s.disk.length d) := (hb.cell (p := ⟨w.heap.size, 1, none⟩) (by simp)).trans (by simp)
  have hF1 := hF0.below hb (Nat.le_refl _)
  have hD1 := hD0.below hb (Nat.le_refl _)
  have hB1 := hB0.trans (hb.mono (by simp))
  clear hb hF0 hD0 hB0
  by_cases hord : findOrderI s.flash = true
  · have hok := order_ok hord
    have HPL := Lib.hid (show ∀ b ∈ s.flash, b.pages.length < 1000000000000 from fun b hb => by rw [(flashOk_shape hok b hb).1]; omega)
    have hfin : Hid (storeOk s = if s.disk.length = 6 then diskGo s.flash 0 s.disk else false) := by unfold Hid storeOk; rw [if_pos hord]
    rw [hord]
    clear hord hok
    by_cases h6 : s.disk.length = 6
    · have H6 := Lib.hid h6
      have hfin2 : Hid (storeOk s = diskGo s.flash 0 s.disk) := by rw [Hid, hfin.out, if_pos h6]
      obtain ⟨db, dO, rfl⟩ := hD1.addr (ints_ne' (by intro e; rw [e] at h6; simp at h6))
      rw [h6] at x1 ⊢
      clear h6 hfin hF hD
      go_wp2
      go_loopw [3] (fun i wr => ∃ k : Nat, k ≤ 6 ∧ i = .int .i64 k ∧ Below w1.heap.size w1 wr ∧ Hid (diskGo s.flash 0 s.disk = diskGo s.flash k (s.disk.drop k))) (fun i _ => 6 - (intOf i).toNat)
      case atStart => exact ⟨0, by omega, rfl, Below.refl _ _, rfl⟩
      case round =>
        obtain ⟨k, hk, rfl, hB, hT⟩ := hrel
        by_cases hlt : k < 6
        · obtain ⟨v, hv⟩ := get_some (l := s.disk) (k := k) (by rw [H6.out]; exact hlt)
          have hk1 : (k : Int) < 6 := by omega
          have e1 : IntKind.i64.wrap ((k : Int) + 1) = (k : Int) + 1 := IntWalk.i64_in _ (by omega)
          have hT2 : Hid (diskGo s.flash 0 s.disk = if valB v = true then (if diskBad s.flash k v then false else diskGo s.flash (k + 1) (s.disk.drop (k + 1))) else false) := by rw [Hid, hT.out, drop_cons hv, diskGo]
          have hdb : Hid (diskBad s.flash k v ↔ (0 < (last s.flash ((k : Int) + 1)).seq ∧ (last s.flash ((k : Int) + 1)).kind = 2 ∧ (last s.flash ((k : Int) + 1)).val ≠ v)) := Iff.rfl
          have HV := Lib.hid hv
          have hwn : w.heap.size < wr.heap.size := by have := hB.size; omega
          replace x0 := (hB.cell (p := ⟨w.heap.size, 0, none⟩) (by show w.heap.size < _; omega)).trans x0
          replace x1 := (hB.cell (p := ⟨w.heap.size, 1, none⟩) (by show w.heap.size < _; omega)).trans x1
          clear hv hT
          go_wp2_with fail
          refine (spec_l3Last s.flash ((k : Int) + 1) A c _ hl HPL.out (hF1.below hB (Nat.le_refl _))).mono ?_
          generalize last s.flash ((k : Int) + 1) = r at *
          rintro e w3 ⟨rfl, hb3⟩
          have hB3 := hB.trans (hb3.mono hB.size)
          have hs3 := hb3.size
          obtain ⟨R, hR⟩ : ∃ R, w3.heap.size = R := ⟨_, rfl⟩
          have hBn : Below w1.heap.size w1 (w3.alloc (.cells #[.int .i64 r.kind, .int .i64 r.seq, .int .i64 r.addr, .int .i64 r.val] 45)).drew := (hB3.alloc hB3.size _).drew
          have hBf := hB1.trans (hBn.mono (by omega))
          have y1 : (w3.alloc (.cells #[.int .i64 r.kind, .int .i64 r.seq, .int .i64 r.addr, .int .i64 r.val] 45)).cell? ⟨w.heap.size, 1, none⟩ = some (.slice (some ⟨db, dO, none⟩) 6 d) := (((Below.refl w3.heap.size w3).alloc (Nat.le_refl _) _).cell (p := ⟨w.heap.size, 1, none⟩) (by show w.heap.size < _; omega)).trans ((hb3.cell (p := ⟨w.heap.size, 1, none⟩) hwn).trans x1)
          obtain ⟨cv, _⟩ := ((hD1.below hB3 (Nat.le_refl _)).alloc (.cells #[.int .i64 r.kind, .int .i64 r.seq, .int .i64 r.addr, .int .i64 r.val] 45)).int_ HV.out
          have z0 : (w3.alloc (.cells #[.int .i64 r.kind, .int .i64 r.seq, .int .i64 r.addr, .int .i64 r.val] 45)).cell? ⟨R, 0, none⟩ = some (.int .i64 r.kind) := by rw [← hR]; simp
          have z3 : (w3.alloc (.cells #[.int .i64 r.kind, .int .i64 r.seq, .int .i64 r.addr, .int .i64 r.val] 45)).cell? ⟨R, 3, none⟩ = some (.int .i64 r.val) := by rw [← hR]; simp
          clear hb3 hB3
          by_cases hr : 0 < r.seq
          · have dr : decide (0 < r.seq) = true := decide_eq_true hr
            go_wp2
            (try rw [hR])
            by_cases hvo : valB v = true
            · have hT3 := hT2.out
              rw [if_pos hvo] at hT3
              replace hT3 := Lib.hid hT3
              have HIN := Lib.hid (fun X => (spec_l6In v 0 9 X).mono (fun e w' (h : e = .returned (.bool (valB v)) ∧ X = w') => (show e = .returned (.bool true) ∧ X = w' from by rw [hvo] at h; exact h)))
              clear hT2 hvo
              refine wp_region_held_drew (S := fun X => X.cell? ⟨w.heap.size, 1, none⟩ = some (.slice (some ⟨db, dO, none⟩) 6 d) ∧ X.cell? ⟨db, dO + k, none⟩ = some (.int .i64 v) ∧ X.cell? ⟨R, 0, none⟩ = some (.int .i64 r.kind) ∧ X.cell? ⟨R, 3, none⟩ = some (.int .i64 r.val)) (by kernel_rfl) ⟨y1, cv, z0, z3⟩ (fun hHeld0 => ?_)
              refine wpAnyH_take (i := 0) (v := ?vqtt1) rfl (by kernel_rfl) (by kernel_rfl) (by kernel_rfl) (fun _ _ _ h => h) (Or.inl ⟨by kernel_rfl, ?yqtt1⟩) hHeld0 ?rqtt1
              case yqtt1 => (intro w' hS; (try dsimp only at hS); obtain ⟨s0, s1, s2, s3⟩ := hS; (try go_simp); (try with_reducible rfl))
              try simp only [Act.put, List.getElem_toArray, List.getElem_cons_zero, List.getElem_cons_succ, List.setIfInBounds_toArray, List.set_cons_zero, List.set_cons_succ]
              refine wpAnyH_take (i := 1) (v := ?vqtt2) rfl (by kernel_rfl) (by kernel_rfl) (by kernel_rfl) (fun _ _ _ h => h) (Or.inl ⟨by kernel_rfl, ?yqtt2⟩) hHeld0 ?rqtt2
              case yqtt2 => (intro w' hS; (try dsimp only at hS); obtain ⟨s0, s1, s2, s3⟩ := hS; (try go_simp); (try with_reducible rfl))
              try simp only [Act.put, List.getElem_toArray, List.getElem_cons_zero, List.getElem_cons_succ, List.setIfInBounds_toArray, List.set_cons_zero, List.set_cons_succ]
              refine wpAnyH_take (i := 2) (v := ?vqtt3) rfl (by kernel_rfl) (by kernel_rfl) (by kernel_rfl) (fun _ _ _ h => h) (Or.inl ⟨by kernel_rfl, ?yqtt3⟩) hHeld0 ?rqtt3
              case yqtt3 => (intro w' hS; (try dsimp only at hS); obtain ⟨s0, s1, s2, s3⟩ := hS; (try go_simp); (try with_reducible rfl))
              try simp only [Act.put, List.getElem_toArray, List.getElem_cons_zero, List.getElem_cons_succ, List.setIfInBounds_toArray, List.set_cons_zero, List.set_cons_succ]
              refine wpAnyH_take (i := 3) (v := ?vqtt4) rfl (by kernel_rfl) (by kernel_rfl) (by kernel_rfl) (fun _ _ _ h => h) (Or.inl ⟨by kernel_rfl, ?yqtt4⟩) hHeld0 ?rqtt4
              case yqtt4 => (intro w' hS; (try dsimp only at hS); obtain ⟨s0, s1, s2, s3⟩ := hS; (try go_simp); (try with_reducible rfl))
              try simp only [Act.put, List.getElem_toArray, List.getElem_cons_zero, List.getElem_cons_succ, List.setIfInBounds_toArray, List.set_cons_zero, List.set_cons_succ]
              refine wpAnyH_take (i := 4) (v := ?vqtt5) rfl (by kernel_rfl) (by kernel_rfl) (by kernel_rfl) (fun _ _ _ h => h) (Or.inl ⟨by kernel_rfl, ?yqtt5⟩) hHeld0 ?rqtt5
              case yqtt5 => (intro w' hS; (try dsimp only at hS); obtain ⟨s0, s1, s2, s3⟩ := hS; (try go_simp); (try with_reducible rfl))
              try simp only [Act.put, List.getElem_toArray, List.getElem_cons_zero, List.getElem_cons_succ, List.setIfInBounds_toArray, List.set_cons_zero, List.set_cons_succ]
              refine wpAnyH_ready (rs := [5]) (by kernel_rfl) (by simp) ?_
              refine AllReadyH.cons rfl (fun K hK => ?_) AllReadyH.nil
              go_simp
              refine (HIN.out _).mono ?_
              rintro e x1 ⟨rfl, rfl⟩
              go_wp2_with fail
              refine hK.out _ _ ((by first | exact hHeld0 | (obtain ⟨a1, a2, a3, a4⟩ := hHeld0; exact ⟨a1, a2, a3, a4⟩))) (fun hHeld1 => ?_)
              clear hK K
              try simp only [Act.put, List.getElem_toArray, List.getElem_cons_zero, List.getElem_cons_succ, List.setIfInBounds_toArray, List.set_cons_zero, List.set_cons_succ]
              refine wpAnyH_take (i := 6) (v := ?vqtt6) rfl (by kernel_rfl) (by kernel_rfl) (by kernel_rfl) (fun _ _ _ h => h) (Or.inl ⟨by kernel_rfl, ?yqtt6⟩) hHeld1 ?rqtt6
              case yqtt6 => (intro w' hS; (try dsimp only at hS); obtain ⟨s0, s1, s2, s3⟩ := hS; (try go_simp); (try with_reducible rfl))
              try simp only [Act.put, List.getElem_toArray, List.getElem_cons_zero, List.getElem_cons_succ, List.setIfInBounds_toArray, List.set_cons_zero, List.set_cons_succ]
              refine wpAnyH_take (i := 7) (v := ?vqtt7) rfl (by kernel_rfl) (by kernel_rfl) (by kernel_rfl) (fun _ _ _ h => h) (Or.inl ⟨by kernel_rfl, ?yqtt7⟩) hHeld1 ?rqtt7
              case yqtt7 => (intro w' hS; (try dsimp only at hS); obtain ⟨s0, s1, s2, s3⟩ := hS; (try go_simp); (try with_reducible rfl))
              try simp only [Act.put, List.getElem_toArray, List.getElem_cons_zero, List.getElem_cons_succ, List.setIfInBounds_toArray, List.set_cons_zero, List.set_cons_succ]
              refine wpAnyH_take (i := 8) (v := ?vqtt8) rfl (by kernel_rfl) (by kernel_rfl) (by kernel_rfl) (fun _ _ _ h => h) (Or.inl ⟨by kernel_rfl, ?yqtt8⟩) hHeld1 ?rqtt8
              case yqtt8 => (intro w' hS; (try dsimp only at hS); obtain ⟨s0, s1, s2, s3⟩ := hS; (try go_simp); (try with_reducible rfl))
              try simp only [Act.put, List.getElem_toArray, List.getElem_cons_zero, List.getElem_cons_succ, List.setIfInBounds_toArray, List.set_cons_zero, List.set_cons_succ]
              refine wpAnyH_take (i := 9) (v := ?vqtt9) rfl (by kernel_rfl) (by kernel_rfl) (by kernel_rfl) (fun _ _ _ h => h) (Or.inl ⟨by kernel_rfl, ?yqtt9⟩) hHeld1 ?rqtt9
              case yqtt9 => (intro w' hS; (try dsimp only at hS); obtain ⟨s0, s1, s2, s3⟩ := hS; (try go_simp); (try with_reducible rfl))
              try simp only [Act.put, List.getElem_toArray, List.getElem_cons_zero, List.getElem_cons_succ, List.setIfInBounds_toArray, List.set_cons_zero, List.set_cons_succ]
              refine wpAnyH_take (i := 10) (v := ?vqtt10) rfl (by kernel_rfl) (by kernel_rfl) (by kernel_rfl) (fun _ _ _ h => h) (Or.inl ⟨by kernel_rfl, ?yqtt10⟩) hHeld1 ?rqtt10
              case yqtt10 => (intro w' hS; (try dsimp only at hS); obtain ⟨s0, s1, s2, s3⟩ := hS; (try go_simp); (try with_reducible rfl))
              try simp only [Act.put, List.getElem_toArray, List.getElem_cons_zero, List.getElem_cons_succ, List.setIfInBounds_toArray, List.set_cons_zero, List.set_cons_succ]
              refine wpAnyH_take (i := 11) (v := ?vqtt11) rfl (by kernel_rfl) (by kernel_rfl) (by kernel_rfl) (fun _ _ _ h => h) (Or.inl ⟨by kernel_rfl, ?yqtt11⟩) hHeld1 ?rqtt11
              case yqtt11 => (intro w' hS; (try dsimp only at hS); obtain ⟨s0, s1, s2, s3⟩ := hS; (try go_simp); (try with_reducible rfl))
              try simp only [Act.put, List.getElem_toArray, List.getElem_cons_zero, List.getElem_cons_succ, List.setIfInBounds_toArray, List.set_cons_zero, List.set_cons_succ]
              by_cases n1 : r.kind = 2
              · have dn1 : (r.kind == 2) = true := by rw [beq_iff_eq]; exact n1
                have HN1 := Lib.hid n1
                clear n1
                refine wpAnyH_take (i := 12) (v := ?vqtt12) rfl (by kernel_rfl) (by kernel_rfl) (by kernel_rfl) (fun _ _ _ h => h) (Or.inl ⟨by kernel_rfl, ?yqtt12⟩) hHeld1 ?rqtt12
                case yqtt12 => (intro w' hS; (try dsimp only at hS); obtain ⟨s0, s1, s2, s3⟩ := hS; (try go_simp); (try with_reducible rfl))
                try simp only [Act.put, List.getElem_toArray, List.getElem_cons_zero, List.getElem_cons_succ, List.setIfInBounds_toArray, List.set_cons_zero, List.set_cons_succ]
                refine wpAnyH_take (i := 13) (v := ?vqtt13) rfl (by kernel_rfl) (by kernel_rfl) (by kernel_rfl) (fun _ _ _ h => h) (Or.inl ⟨by kernel_rfl, ?yqtt13⟩) hHeld1 ?rqtt13
                case yqtt13 => (intro w' hS; (try dsimp only at hS); obtain ⟨s0, s1, s2, s3⟩ := hS; (try go_simp); (try with_reducible rfl))
                try simp only [Act.put, List.getElem_toArray, List.getElem_cons_zero, List.getElem_cons_succ, List.setIfInBounds_toArray, List.set_cons_zero, List.set_cons_succ]
                refine wpAnyH_take (i := 14) (v := ?vqtt14) rfl (by kernel_rfl) (by kernel_rfl) (by kernel_rfl) (fun _ _ _ h => h) (Or.inl ⟨by kernel_rfl, ?yqtt14⟩) hHeld1 ?rqtt14
                case yqtt14 => (intro w' hS; (try dsimp only at hS); obtain ⟨s0, s1, s2, s3⟩ := hS; (try go_simp); (try with_reducible rfl))
                try simp only [Act.put, List.getElem_toArray, List.getElem_cons_zero, List.getElem_cons_succ, List.setIfInBounds_toArray, List.set_cons_zero, List.set_cons_succ]
                refine wpAnyH_take (i := 15) (v := ?vqtt15) rfl (by kernel_rfl) (by kernel_rfl) (by kernel_rfl) (fun _ _ _ h => h) (Or.inl ⟨by kernel_rfl, ?yqtt15⟩) hHeld1 ?rqtt15
                case yqtt15 => (intro w' hS; (try dsimp only at hS); obtain ⟨s0, s1, s2, s3⟩ := hS; (try go_simp); (try with_reducible rfl))
                try simp only [Act.put, List.getElem_toArray, List.getElem_cons_zero, List.getElem_cons_succ, List.setIfInBounds_toArray, List.set_cons_zero, List.set_cons_succ]
                refine wpAnyH_take (i := 16) (v := ?vqtt16) rfl (by kernel_rfl) (by kernel_rfl) (by kernel_rfl) (fun _ _ _ h => h) (Or.inl ⟨by kernel_rfl, ?yqtt16⟩) hHeld1 ?rqtt16
                case yqtt16 => (intro w' hS; (try dsimp only at hS); obtain ⟨s0, s1, s2, s3⟩ := hS; (try go_simp); (try with_reducible rfl))
                try simp only [Act.put, List.getElem_toArray, List.getElem_cons_zero, List.getElem_cons_succ, List.setIfInBounds_toArray, List.set_cons_zero, List.set_cons_succ]
                refine wpAnyH_take (i := 17) (v := ?vqtt17) rfl (by kernel_rfl) (by kernel_rfl) (by kernel_rfl) (fun _ _ _ h => h) (Or.inl ⟨by kernel_rfl, ?yqtt17⟩) hHeld1 ?rqtt17
                case yqtt17 => (intro w' hS; (try dsimp only at hS); obtain ⟨s0, s1, s2, s3⟩ := hS; (try go_simp); (try with_reducible rfl))
                try simp only [Act.put, List.getElem_toArray, List.getElem_cons_zero, List.getElem_cons_succ, List.setIfInBounds_toArray, List.set_cons_zero, List.set_cons_succ]
                refine wpAnyH_take (i := 18) (v := ?vqtt18) rfl (by kernel_rfl) (by kernel_rfl) (by kernel_rfl) (fun _ _ _ h => h) (Or.inl ⟨by kernel_rfl, ?yqtt18⟩) hHeld1 ?rqtt18
                case yqtt18 => (intro w' hS; (try dsimp only at hS); obtain ⟨s0, s1, s2, s3⟩ := hS; (try go_simp); (try with_reducible rfl))
                try simp only [Act.put, List.getElem_toArray, List.getElem_cons_zero, List.getElem_cons_succ, List.setIfInBounds_toArray, List.set_cons_zero, List.set_cons_succ]
                refine wpAnyH_take (i := 19) (v := ?vqtt19) rfl (by kernel_rfl) (by kernel_rfl) (by kernel_rfl) (fun _ _ _ h => h) (Or.inl ⟨by kernel_rfl, ?yqtt19⟩) hHeld1 ?rqtt19
                case yqtt19 => (intro w' hS; (try dsimp only at hS); obtain ⟨s0, s1, s2, s3⟩ := hS; (try go_simp); (try with_reducible rfl))
                try simp only [Act.put, List.getElem_toArray, List.getElem_cons_zero, List.getElem_cons_succ, List.setIfInBounds_toArray, List.set_cons_zero, List.set_cons_succ]
                refine wpAnyH_take (i := 20) (v := ?vqtt20) rfl (by kernel_rfl) (by kernel_rfl) (by kernel_rfl) (fun _ _ _ h => h) (Or.inl ⟨by kernel_rfl, ?yqtt20⟩) hHeld1 ?rqtt20
                case yqtt20 => (intro w' hS; (try dsimp only at hS); obtain ⟨s0, s1, s2, s3⟩ := hS; (try go_simp); (try with_reducible rfl))
                try simp only [Act.put, List.getElem_toArray, List.getElem_cons_zero, List.getElem_cons_succ, List.setIfInBounds_toArray, List.set_cons_zero, List.set_cons_succ]
                refine wpAnyH_take (i := 21) (v := ?vqtt21) rfl (by kernel_rfl) (by kernel_rfl) (by kernel_rfl) (fun _ _ _ h => h) (Or.inl ⟨by kernel_rfl, ?yqtt21⟩) hHeld1 ?rqtt21
                case yqtt21 => (intro w' hS; (try dsimp only at hS); obtain ⟨s0, s1, s2, s3⟩ := hS; (try go_simp); (try with_reducible rfl))
                try simp only [Act.put, List.getElem_toArray, List.getElem_cons_zero, List.getElem_cons_succ, List.setIfInBounds_toArray, List.set_cons_zero, List.set_cons_succ]
                by_cases n2 : r.val ≠ v
                · have dn2 : (r.val != v) = true := by rw [bne_iff_ne]; exact n2
                  refine wpAnyH_take (i := 22) (v := ?vqtt22) rfl (by kernel_rfl) (by kernel_rfl) (by kernel_rfl) (fun _ _ _ h => h) (Or.inl ⟨by kernel_rfl, ?yqtt22⟩) hHeld1 ?rqtt22
                  case yqtt22 => (intro w' hS; (try dsimp only at hS); obtain ⟨s0, s1, s2, s3⟩ := hS; (try go_simp); (try with_reducible rfl))
                  try simp only [Act.put, List.getElem_toArray, List.getElem_cons_zero, List.getElem_cons_succ, List.setIfInBounds_toArray, List.set_cons_zero, List.set_cons_succ]
                  refine wpAnyH_take (i := 23) (v := ?vqtt23) rfl (by kernel_rfl) (by kernel_rfl) (by kernel_rfl) (fun _ _ _ h => h) (Or.inl ⟨by kernel_rfl, ?yqtt23⟩) hHeld1 ?rqtt23
                  case yqtt23 => (intro w' hS; (try dsimp only at hS); obtain ⟨s0, s1, s2, s3⟩ := hS; (try go_simp); (try with_reducible rfl))
                  try simp only [Act.put, List.getElem_toArray, List.getElem_cons_zero, List.getElem_cons_succ, List.setIfInBounds_toArray, List.set_cons_zero, List.set_cons_succ]
                  refine wpAnyH_take (i := 24) (v := ?vqtt24) rfl (by kernel_rfl) (by kernel_rfl) (by kernel_rfl) (fun _ _ _ h => h) (Or.inl ⟨by kernel_rfl, ?yqtt24⟩) hHeld1 ?rqtt24
                  case yqtt24 => (intro w' hS; (try dsimp only at hS); obtain ⟨s0, s1, s2, s3⟩ := hS; (try go_simp); (try with_reducible rfl))
                  try simp only [Act.put, List.getElem_toArray, List.getElem_cons_zero, List.getElem_cons_succ, List.setIfInBounds_toArray, List.set_cons_zero, List.set_cons_succ]
                  refine wpAnyH_done (by kernel_rfl) ?_ _
                  have hx := hT3.out
                  rw [if_pos (hdb.out.2 ⟨hr, HN1.out, n2⟩)] at hx
                  replace hx := Lib.hid hx
                  clear hT3
                  go_wp2
                  go_ret
                  exact ⟨ret_bool (by rw [hfin2.out, hx.out]), hBf⟩
                · have dn2 : (r.val != v) = false := by rw [bne_eq_false_iff_eq]; simpa using n2
                  refine wpAnyH_take (i := 22) (v := ?vqtt25) rfl (by kernel_rfl) (by kernel_rfl) (by kernel_rfl) (fun _ _ _ h => h) (Or.inl ⟨by kernel_rfl, ?yqtt25⟩) hHeld1 ?rqtt25
                  case yqtt25 => (intro w' hS; (try dsimp only at hS); obtain ⟨s0, s1, s2, s3⟩ := hS; (try go_simp); (try with_reducible rfl))
                  try simp only [Act.put, List.getElem_toArray, List.getElem_cons_zero, List.getElem_cons_succ, List.setIfInBounds_toArray, List.set_cons_zero, List.set_cons_succ]
                  refine wpAnyH_take (i := 23) (v := ?vqtt26) rfl (by kernel_rfl) (by kernel_rfl) (by kernel_rfl) (fun _ _ _ h => h) (Or.inl ⟨by kernel_rfl, ?yqtt26⟩) hHeld1 ?rqtt26
                  case yqtt26 => (intro w' hS; (try dsimp only at hS); obtain ⟨s0, s1, s2, s3⟩ := hS; (try go_simp); (try with_reducible rfl))
                  try simp only [Act.put, List.getElem_toArray, List.getElem_cons_zero, List.getElem_cons_succ, List.setIfInBounds_toArray, List.set_cons_zero, List.set_cons_succ]
                  refine wpAnyH_take (i := 24) (v := ?vqtt27) rfl (by kernel_rfl) (by kernel_rfl) (by kernel_rfl) (fun _ _ _ h => h) (Or.inl ⟨by kernel_rfl, ?yqtt27⟩) hHeld1 ?rqtt27
                  case yqtt27 => (intro w' hS; (try dsimp only at hS); obtain ⟨s0, s1, s2, s3⟩ := hS; (try go_simp); (try with_reducible rfl))
                  try simp only [Act.put, List.getElem_toArray, List.getElem_cons_zero, List.getElem_cons_succ, List.setIfInBounds_toArray, List.set_cons_zero, List.set_cons_succ]
                  refine wpAnyH_done (by kernel_rfl) ?_ _
                  have hx := hT3.out
                  rw [if_neg (fun e => n2 (hdb.out.1 e).2.2)] at hx
                  replace hx := Lib.hid hx
                  clear hT3
                  go_wp2
                  go_roundw
                  (case rel => exact ⟨k + 1, by omega, by go_num, hBn, hx⟩)
                  (case measure => simp [intOf]; omega)
              · have dn1 : (r.kind == 2) = false := by rw [beq_eq_false_iff_ne]; exact n1
                have HN1 := Lib.hid n1
                refine wpAnyH_take (i := 12) (v := ?vqtt28) rfl (by kernel_rfl) (by kernel_rfl) (by kernel_rfl) (fun _ _ _ h => h) (Or.inl ⟨by kernel_rfl, ?yqtt28⟩) hHeld1 ?rqtt28
                case yqtt28 => (intro w' hS; (try dsimp only at hS); obtain ⟨s0, s1, s2, s3⟩ := hS; (try go_simp); (try with_reducible rfl))
                try simp only [Act.put, List.getElem_toArray, List.getElem_cons_zero, List.getElem_cons_succ, List.setIfInBounds_toArray, List.set_cons_zero, List.set_cons_succ]
                refine wpAnyH_take (i := 13) (v := ?vqtt29) rfl (by kernel_rfl) (by kernel_rfl) (by kernel_rfl) (fun _ _ _ h => h) (Or.inl ⟨by kernel_rfl, ?yqtt29⟩) hHeld1 ?rqtt29
                case yqtt29 => (intro w' hS; (try dsimp only at hS); obtain ⟨s0, s1, s2, s3⟩ := hS; (try go_simp); (try with_reducible rfl))
                try simp only [Act.put, List.getElem_toArray, List.getElem_cons_zero, List.getElem_cons_succ, List.setIfInBounds_toArray, List.set_cons_zero, List.set_cons_succ]
                refine wpAnyH_take (i := 14) (v := ?vqtt30) rfl (by kernel_rfl) (by kernel_rfl) (by kernel_rfl) (fun _ _ _ h => h) (Or.inl ⟨by kernel_rfl, ?yqtt30⟩) hHeld1 ?rqtt30
                case yqtt30 => (intro w' hS; (try dsimp only at hS); obtain ⟨s0, s1, s2, s3⟩ := hS; (try go_simp); (try with_reducible rfl))
                try simp only [Act.put, List.getElem_toArray, List.getElem_cons_zero, List.getElem_cons_succ, List.setIfInBounds_toArray, List.set_cons_zero, List.set_cons_succ]
                refine wpAnyH_take (i := 15) (v := undef) rfl (by kernel_rfl) (by kernel_rfl) (by kernel_rfl) (fun _ _ _ h => h) (Or.inr ⟨by kernel_rfl, rfl⟩) hHeld1 ?_
                try simp only [Act.put, List.getElem_toArray, List.getElem_cons_zero, List.getElem_cons_succ, List.setIfInBounds_toArray, List.set_cons_zero, List.set_cons_succ]
                refine wpAnyH_take (i := 16) (v := undef) rfl (by kernel_rfl) (by kernel_rfl) (by kernel_rfl) (fun _ _ _ h => h) (Or.inr ⟨by kernel_rfl, rfl⟩) hHeld1 ?_
                try simp only [Act.put, List.getElem_toArray, List.getElem_cons_zero, List.getElem_cons_succ, List.setIfInBounds_toArray, List.set_cons_zero, List.set_cons_succ]
                refine wpAnyH_take (i := 17) (v := undef) rfl (by kernel_rfl) (by kernel_rfl) (by kernel_rfl) (fun _ _ _ h => h) (Or.inr ⟨by kernel_rfl, rfl⟩) hHeld1 ?_
                try simp only [Act.put, List.getElem_toArray, List.getElem_cons_zero, List.getElem_cons_succ, List.setIfInBounds_toArray, List.set_cons_zero, List.set_cons_succ]
                refine wpAnyH_take (i := 18) (v := undef) rfl (by kernel_rfl) (by kernel_rfl) (by kernel_rfl) (fun _ _ _ h => h) (Or.inr ⟨by kernel_rfl, rfl⟩) hHeld1 ?_
                try simp only [Act.put, List.getElem_toArray, List.getElem_cons_zero, List.getElem_cons_succ, List.setIfInBounds_toArray, List.set_cons_zero, List.set_cons_succ]
                refine wpAnyH_take (i := 19) (v := undef) rfl (by kernel_rfl) (by kernel_rfl) (by kernel_rfl) (fun _ _ _ h => h) (Or.inr ⟨by kernel_rfl, rfl⟩) hHeld1 ?_
                try simp only [Act.put, List.getElem_toArray, List.getElem_cons_zero, List.getElem_cons_succ, List.setIfInBounds_toArray, List.set_cons_zero, List.set_cons_succ]
                refine wpAnyH_take (i := 20) (v := undef) rfl (by kernel_rfl) (by kernel_rfl) (by kernel_rfl) (fun _ _ _ h => h) (Or.inr ⟨by kernel_rfl, rfl⟩) hHeld1 ?_
                try simp only [Act.put, List.getElem_toArray, List.getElem_cons_zero, List.getElem_cons_succ, List.setIfInBounds_toArray, List.set_cons_zero, List.set_cons_succ]
                refine wpAnyH_take (i := 21) (v := undef) rfl (by kernel_rfl) (by kernel_rfl) (by kernel_rfl) (fun _ _ _ h => h) (Or.inr ⟨by kernel_rfl, rfl⟩) hHeld1 ?_
                try simp only [Act.put, List.getElem_toArray, List.getElem_cons_zero, List.getElem_cons_succ, List.setIfInBounds_toArray, List.set_cons_zero, List.set_cons_succ]
                refine wpAnyH_take (i := 22) (v := undef) rfl (by kernel_rfl) (by kernel_rfl) (by kernel_rfl) (fun _ _ _ h => h) (Or.inr ⟨by kernel_rfl, rfl⟩) hHeld1 ?_
                try simp only [Act.put, List.getElem_toArray, List.getElem_cons_zero, List.getElem_cons_succ, List.setIfInBounds_toArray, List.set_cons_zero, List.set_cons_succ]
                refine wpAnyH_take (i := 23) (v := ?vqtt31) rfl (by kernel_rfl) (by kernel_rfl) (by kernel_rfl) (fun _ _ _ h => h) (Or.inl ⟨by kernel_rfl, ?yqtt31⟩) hHeld1 ?rqtt31
                case yqtt31 => (intro w' hS; (try dsimp only at hS); obtain ⟨s0, s1, s2, s3⟩ := hS; (try go_simp); (try with_reducible rfl))
                try simp only [Act.put, List.getElem_toArray, List.getElem_cons_zero, List.getElem_cons_succ, List.setIfInBounds_toArray, List.set_cons_zero, List.set_cons_succ]
                refine wpAnyH_take (i := 24) (v := ?vqtt32) rfl (by kernel_rfl) (by kernel_rfl) (by kernel_rfl) (fun _ _ _ h => h) (Or.inl ⟨by kernel_rfl, ?yqtt32⟩) hHeld1 ?rqtt32
                case yqtt32 => (intro w' hS; (try dsimp only at hS); obtain ⟨s0, s1, s2, s3⟩ := hS; (try go_simp); (try with_reducible rfl))
                try simp only [Act.put, List.getElem_toArray, List.getElem_cons_zero, List.getElem_cons_succ, List.setIfInBounds_toArray, List.set_cons_zero, List.set_cons_succ]
                refine wpAnyH_done (by kernel_rfl) ?_ _
                have hx := hT3.out
                rw [if_neg (fun e => by have h1 := (hdb.out.1 e).2.1; have h2 := HN1.out; omega)] at hx
                replace hx := Lib.hid hx
                clear hT3
                go_wp2
                go_roundw
                (case rel => exact ⟨k + 1, by omega, by go_num, hBn, hx⟩)
                (case measure => simp [intOf]; omega)
            · have hx := hT2.out
              rw [if_neg hvo] at hx
              replace hx := Lib.hid hx
              have HIN := Lib.hid (fun X => (spec_l6In v 0 9 X).mono (fun e w' (h : e = .returned (.bool (valB v)) ∧ X = w') => (show e = .returned (.bool false) ∧ X = w' from by rw [show valB v = false from by simpa using hvo] at h; exact h)))
              clear hT2 hvo
              refine wp_region_held_drew (S := fun X => X.cell? ⟨w.heap.size, 1, none⟩ = some (.slice (some ⟨db, dO, none⟩) 6 d) ∧ X.cell? ⟨db, dO + k, none⟩ = some (.int .i64 v) ∧ X.cell? ⟨R, 0, none⟩ = some (.int .i64 r.kind) ∧ X.cell? ⟨R, 3, none⟩ = some (.int .i64 r.val)) (by kernel_rfl) ⟨y1, cv, z0, z3⟩ (fun hHeld0 => ?_)
              refine wpAnyH_take (i := 0) (v := ?vqtf1) rfl (by kernel_rfl) (by kernel_rfl) (by kernel_rfl) (fun _ _ _ h => h) (Or.inl ⟨by kernel_rfl, ?yqtf1⟩) hHeld0 ?rqtf1
              case yqtf1 => (intro w' hS; (try dsimp only at hS); obtain ⟨s0, s1, s2, s3⟩ := hS; (try go_simp); (try with_reducible rfl))
              try simp only [Act.put, List.getElem_toArray, List.getElem_cons_zero, List.getElem_cons_succ, List.setIfInBounds_toArray, List.set_cons_zero, List.set_cons_succ]
              refine wpAnyH_take (i := 1) (v := ?vqtf2) rfl (by kernel_rfl) (by kernel_rfl) (by kernel_rfl) (fun _ _ _ h => h) (Or.inl ⟨by kernel_rfl, ?yqtf2⟩) hHeld0 ?rqtf2
              case yqtf2 => (intro w' hS; (try dsimp only at hS); obtain ⟨s0, s1, s2, s3⟩ := hS; (try go_simp); (try with_reducible rfl))
              try simp only [Act.put, List.getElem_toArray, List.getElem_cons_zero, List.getElem_cons_succ, List.setIfInBounds_toArray, List.set_cons_zero, List.set_cons_succ]
              refine wpAnyH_take (i := 2) (v := ?vqtf3) rfl (by kernel_rfl) (by kernel_rfl) (by kernel_rfl) (fun _ _ _ h => h) (Or.inl ⟨by kernel_rfl, ?yqtf3⟩) hHeld0 ?rqtf3
              case yqtf3 => (intro w' hS; (try dsimp only at hS); obtain ⟨s0, s1, s2, s3⟩ := hS; (try go_simp); (try with_reducible rfl))
              try simp only [Act.put, List.getElem_toArray, List.getElem_cons_zero, List.getElem_cons_succ, List.setIfInBounds_toArray, List.set_cons_zero, List.set_cons_succ]
              refine wpAnyH_take (i := 3) (v := ?vqtf4) rfl (by kernel_rfl) (by kernel_rfl) (by kernel_rfl) (fun _ _ _ h => h) (Or.inl ⟨by kernel_rfl, ?yqtf4⟩) hHeld0 ?rqtf4
              case yqtf4 => (intro w' hS; (try dsimp only at hS); obtain ⟨s0, s1, s2, s3⟩ := hS; (try go_simp); (try with_reducible rfl))
              try simp only [Act.put, List.getElem_toArray, List.getElem_cons_zero, List.getElem_cons_succ, List.setIfInBounds_toArray, List.set_cons_zero, List.set_cons_succ]
              refine wpAnyH_take (i := 4) (v := ?vqtf5) rfl (by kernel_rfl) (by kernel_rfl) (by kernel_rfl) (fun _ _ _ h => h) (Or.inl ⟨by kernel_rfl, ?yqtf5⟩) hHeld0 ?rqtf5
              case yqtf5 => (intro w' hS; (try dsimp only at hS); obtain ⟨s0, s1, s2, s3⟩ := hS; (try go_simp); (try with_reducible rfl))
              try simp only [Act.put, List.getElem_toArray, List.getElem_cons_zero, List.getElem_cons_succ, List.setIfInBounds_toArray, List.set_cons_zero, List.set_cons_succ]
              refine wpAnyH_ready (rs := [5]) (by kernel_rfl) (by simp) ?_
              refine AllReadyH.cons rfl (fun K hK => ?_) AllReadyH.nil
              go_simp
              refine (HIN.out _).mono ?_
              rintro e x1 ⟨rfl, rfl⟩
              go_wp2_with fail
              refine hK.out _ _ ((by first | exact hHeld0 | (obtain ⟨a1, a2, a3, a4⟩ := hHeld0; exact ⟨a1, a2, a3, a4⟩))) (fun hHeld1 => ?_)
              clear hK K
              try simp only [Act.put, List.getElem_toArray, List.getElem_cons_zero, List.getElem_cons_succ, List.setIfInBounds_toArray, List.set_cons_zero, List.set_cons_succ]
              refine wpAnyH_take (i := 6) (v := ?vqtf6) rfl (by kernel_rfl) (by kernel_rfl) (by kernel_rfl) (fun _ _ _ h => h) (Or.inl ⟨by kernel_rfl, ?yqtf6⟩) hHeld1 ?rqtf6
              case yqtf6 => (intro w' hS; (try dsimp only at hS); obtain ⟨s0, s1, s2, s3⟩ := hS; (try go_simp); (try with_reducible rfl))
              try simp only [Act.put, List.getElem_toArray, List.getElem_cons_zero, List.getElem_cons_succ, List.setIfInBounds_toArray, List.set_cons_zero, List.set_cons_succ]
              refine wpAnyH_take (i := 7) (v := ?vqtf7) rfl (by kernel_rfl) (by kernel_rfl) (by kernel_rfl) (fun _ _ _ h => h) (Or.inl ⟨by kernel_rfl, ?yqtf7⟩) hHeld1 ?rqtf7
              case yqtf7 => (intro w' hS; (try dsimp only at hS); obtain ⟨s0, s1, s2, s3⟩ := hS; (try go_simp); (try with_reducible rfl))
              try simp only [Act.put, List.getElem_toArray, List.getElem_cons_zero, List.getElem_cons_succ, List.setIfInBounds_toArray, List.set_cons_zero, List.set_cons_succ]
              refine wpAnyH_take (i := 8) (v := undef) rfl (by kernel_rfl) (by kernel_rfl) (by kernel_rfl) (fun _ _ _ h => h) (Or.inr ⟨by kernel_rfl, rfl⟩) hHeld1 ?_
              try simp only [Act.put, List.getElem_toArray, List.getElem_cons_zero, List.getElem_cons_succ, List.setIfInBounds_toArray, List.set_cons_zero, List.set_cons_succ]
              refine wpAnyH_take (i := 9) (v := undef) rfl (by kernel_rfl) (by kernel_rfl) (by kernel_rfl) (fun _ _ _ h => h) (Or.inr ⟨by kernel_rfl, rfl⟩) hHeld1 ?_
              try simp only [Act.put, List.getElem_toArray, List.getElem_cons_zero, List.getElem_cons_succ, List.setIfInBounds_toArray, List.set_cons_zero, List.set_cons_succ]
              refine wpAnyH_take (i := 10) (v := undef) rfl (by kernel_rfl) (by kernel_rfl) (by kernel_rfl) (fun _ _ _ h => h) (Or.inr ⟨by kernel_rfl, rfl⟩) hHeld1 ?_
              try simp only [Act.put, List.getElem_toArray, List.getElem_cons_zero, List.getElem_cons_succ, List.setIfInBounds_toArray, List.set_cons_zero, List.set_cons_succ]
              refine wpAnyH_take (i := 11) (v := undef) rfl (by kernel_rfl) (by kernel_rfl) (by kernel_rfl) (fun _ _ _ h => h) (Or.inr ⟨by kernel_rfl, rfl⟩) hHeld1 ?_
              try simp only [Act.put, List.getElem_toArray, List.getElem_cons_zero, List.getElem_cons_succ, List.setIfInBounds_toArray, List.set_cons_zero, List.set_cons_succ]
              refine wpAnyH_take (i := 12) (v := undef) rfl (by kernel_rfl) (by kernel_rfl) (by kernel_rfl) (fun _ _ _ h => h) (Or.inr ⟨by kernel_rfl, rfl⟩) hHeld1 ?_
              try simp only [Act.put, List.getElem_toArray, List.getElem_cons_zero, List.getElem_cons_succ, List.setIfInBounds_toArray, List.set_cons_zero, List.set_cons_succ]
              refine wpAnyH_take (i := 13) (v := undef) rfl (by kernel_rfl) (by kernel_rfl) (by kernel_rfl) (fun _ _ _ h => h) (Or.inr ⟨by kernel_rfl, rfl⟩) hHeld1 ?_
              try simp only [Act.put, List.getElem_toArray, List.getElem_cons_zero, List.getElem_cons_succ, List.setIfInBounds_toArray, List.set_cons_zero, List.set_cons_succ]
              refine wpAnyH_take (i := 14) (v := undef) rfl (by kernel_rfl) (by kernel_rfl) (by kernel_rfl) (fun _ _ _ h => h) (Or.inr ⟨by kernel_rfl, rfl⟩) hHeld1 ?_
              try simp only [Act.put, List.getElem_toArray, List.getElem_cons_zero, List.getElem_cons_succ, List.setIfInBounds_toArray, List.set_cons_zero, List.set_cons_succ]
              refine wpAnyH_take (i := 15) (v := undef) rfl (by kernel_rfl) (by kernel_rfl) (by kernel_rfl) (fun _ _ _ h => h) (Or.inr ⟨by kernel_rfl, rfl⟩) hHeld1 ?_
              try simp only [Act.put, List.getElem_toArray, List.getElem_cons_zero, List.getElem_cons_succ, List.setIfInBounds_toArray, List.set_cons_zero, List.set_cons_succ]
              refine wpAnyH_take (i := 16) (v := undef) rfl (by kernel_rfl) (by kernel_rfl) (by kernel_rfl) (fun _ _ _ h => h) (Or.inr ⟨by kernel_rfl, rfl⟩) hHeld1 ?_
              try simp only [Act.put, List.getElem_toArray, List.getElem_cons_zero, List.getElem_cons_succ, List.setIfInBounds_toArray, List.set_cons_zero, List.set_cons_succ]
              refine wpAnyH_take (i := 17) (v := undef) rfl (by kernel_rfl) (by kernel_rfl) (by kernel_rfl) (fun _ _ _ h => h) (Or.inr ⟨by kernel_rfl, rfl⟩) hHeld1 ?_
              try simp only [Act.put, List.getElem_toArray, List.getElem_cons_zero, List.getElem_cons_succ, List.setIfInBounds_toArray, List.set_cons_zero, List.set_cons_succ]
              refine wpAnyH_take (i := 18) (v := undef) rfl (by kernel_rfl) (by kernel_rfl) (by kernel_rfl) (fun _ _ _ h => h) (Or.inr ⟨by kernel_rfl, rfl⟩) hHeld1 ?_
              try simp only [Act.put, List.getElem_toArray, List.getElem_cons_zero, List.getElem_cons_succ, List.setIfInBounds_toArray, List.set_cons_zero, List.set_cons_succ]
              refine wpAnyH_take (i := 19) (v := undef) rfl (by kernel_rfl) (by kernel_rfl) (by kernel_rfl) (fun _ _ _ h => h) (Or.inr ⟨by kernel_rfl, rfl⟩) hHeld1 ?_
              try simp only [Act.put, List.getElem_toArray, List.getElem_cons_zero, List.getElem_cons_succ, List.setIfInBounds_toArray, List.set_cons_zero, List.set_cons_succ]
              refine wpAnyH_take (i := 20) (v := undef) rfl (by kernel_rfl) (by kernel_rfl) (by kernel_rfl) (fun _ _ _ h => h) (Or.inr ⟨by kernel_rfl, rfl⟩) hHeld1 ?_
              try simp only [Act.put, List.getElem_toArray, List.getElem_cons_zero, List.getElem_cons_succ, List.setIfInBounds_toArray, List.set_cons_zero, List.set_cons_succ]
              refine wpAnyH_take (i := 21) (v := undef) rfl (by kernel_rfl) (by kernel_rfl) (by kernel_rfl) (fun _ _ _ h => h) (Or.inr ⟨by kernel_rfl, rfl⟩) hHeld1 ?_
              try simp only [Act.put, List.getElem_toArray, List.getElem_cons_zero, List.getElem_cons_succ, List.setIfInBounds_toArray, List.set_cons_zero, List.set_cons_succ]
              refine wpAnyH_take (i := 22) (v := undef) rfl (by kernel_rfl) (by kernel_rfl) (by kernel_rfl) (fun _ _ _ h => h) (Or.inr ⟨by kernel_rfl, rfl⟩) hHeld1 ?_
              try simp only [Act.put, List.getElem_toArray, List.getElem_cons_zero, List.getElem_cons_succ, List.setIfInBounds_toArray, List.set_cons_zero, List.set_cons_succ]
              refine wpAnyH_take (i := 23) (v := undef) rfl (by kernel_rfl) (by kernel_rfl) (by kernel_rfl) (fun _ _ _ h => h) (Or.inr ⟨by kernel_rfl, rfl⟩) hHeld1 ?_
              try simp only [Act.put, List.getElem_toArray, List.getElem_cons_zero, List.getElem_cons_succ, List.setIfInBounds_toArray, List.set_cons_zero, List.set_cons_succ]
              refine wpAnyH_take (i := 24) (v := ?vqtf8) rfl (by kernel_rfl) (by kernel_rfl) (by kernel_rfl) (fun _ _ _ h => h) (Or.inl ⟨by kernel_rfl, ?yqtf8⟩) hHeld1 ?rqtf8
              case yqtf8 => (intro w' hS; (try dsimp only at hS); obtain ⟨s0, s1, s2, s3⟩ := hS; (try go_simp); (try with_reducible rfl))
              try simp only [Act.put, List.getElem_toArray, List.getElem_cons_zero, List.getElem_cons_succ, List.setIfInBounds_toArray, List.set_cons_zero, List.set_cons_succ]
              refine wpAnyH_done (by kernel_rfl) ?_ _
              go_wp2
              go_ret
              exact ⟨ret_bool (by rw [hfin2.out, hx.out]), hBf⟩
          · have dr : decide (0 < r.seq) = false := decide_eq_false hr
            have HR := Lib.hid hr
            clear hr
            go_wp2
            (try rw [hR])
            by_cases hvo : valB v = true
            · have hx := hT2.out
              rw [if_pos hvo, if_neg (fun e => by have h1 := (hdb.out.1 e).1; have h2 := HR.out; omega)] at hx
              replace hx := Lib.hid hx
              have HIN := Lib.hid (fun X => (spec_l6In v 0 9 X).mono (fun e w' (h : e = .returned (.bool (valB v)) ∧ X = w') => (show e = .returned (.bool true) ∧ X = w' from by rw [hvo] at h; exact h)))
              clear hT2 hvo
              refine wp_region_held_drew (S := fun X => X.cell? ⟨w.heap.size, 1, none⟩ = some (.slice (some ⟨db, dO, none⟩) 6 d) ∧ X.cell? ⟨db, dO + k, none⟩ = some (.int .i64 v) ∧ X.cell? ⟨R, 0, none⟩ = some (.int .i64 r.kind) ∧ X.cell? ⟨R, 3, none⟩ = some (.int .i64 r.val)) (by kernel_rfl) ⟨y1, cv, z0, z3⟩ (fun hHeld0 => ?_)
              refine wpAnyH_take (i := 0) (v := ?vqft1) rfl (by kernel_rfl) (by kernel_rfl) (by kernel_rfl) (fun _ _ _ h => h) (Or.inl ⟨by kernel_rfl, ?yqft1⟩) hHeld0 ?rqft1
              case yqft1 => (intro w' hS; (try dsimp only at hS); obtain ⟨s0, s1, s2, s3⟩ := hS; (try go_simp); (try with_reducible rfl))
              try simp only [Act.put, List.getElem_toArray, List.getElem_cons_zero, List.getElem_cons_succ, List.setIfInBounds_toArray, List.set_cons_zero, List.set_cons_succ]
              refine wpAnyH_take (i := 1) (v := ?vqft2) rfl (by kernel_rfl) (by kernel_rfl) (by kernel_rfl) (fun _ _ _ h => h) (Or.inl ⟨by kernel_rfl, ?yqft2⟩) hHeld0 ?rqft2
              case yqft2 => (intro w' hS; (try dsimp only at hS); obtain ⟨s0, s1, s2, s3⟩ := hS; (try go_simp); (try with_reducible rfl))
              try simp only [Act.put, List.getElem_toArray, List.getElem_cons_zero, List.getElem_cons_succ, List.setIfInBounds_toArray, List.set_cons_zero, List.set_cons_succ]
              refine wpAnyH_take (i := 2) (v := ?vqft3) rfl (by kernel_rfl) (by kernel_rfl) (by kernel_rfl) (fun _ _ _ h => h) (Or.inl ⟨by kernel_rfl, ?yqft3⟩) hHeld0 ?rqft3
              case yqft3 => (intro w' hS; (try dsimp only at hS); obtain ⟨s0, s1, s2, s3⟩ := hS; (try go_simp); (try with_reducible rfl))
              try simp only [Act.put, List.getElem_toArray, List.getElem_cons_zero, List.getElem_cons_succ, List.setIfInBounds_toArray, List.set_cons_zero, List.set_cons_succ]
              refine wpAnyH_take (i := 3) (v := ?vqft4) rfl (by kernel_rfl) (by kernel_rfl) (by kernel_rfl) (fun _ _ _ h => h) (Or.inl ⟨by kernel_rfl, ?yqft4⟩) hHeld0 ?rqft4
              case yqft4 => (intro w' hS; (try dsimp only at hS); obtain ⟨s0, s1, s2, s3⟩ := hS; (try go_simp); (try with_reducible rfl))
              try simp only [Act.put, List.getElem_toArray, List.getElem_cons_zero, List.getElem_cons_succ, List.setIfInBounds_toArray, List.set_cons_zero, List.set_cons_succ]
              refine wpAnyH_take (i := 4) (v := ?vqft5) rfl (by kernel_rfl) (by kernel_rfl) (by kernel_rfl) (fun _ _ _ h => h) (Or.inl ⟨by kernel_rfl, ?yqft5⟩) hHeld0 ?rqft5
              case yqft5 => (intro w' hS; (try dsimp only at hS); obtain ⟨s0, s1, s2, s3⟩ := hS; (try go_simp); (try with_reducible rfl))
              try simp only [Act.put, List.getElem_toArray, List.getElem_cons_zero, List.getElem_cons_succ, List.setIfInBounds_toArray, List.set_cons_zero, List.set_cons_succ]
              refine wpAnyH_ready (rs := [5]) (by kernel_rfl) (by simp) ?_
              refine AllReadyH.cons rfl (fun K hK => ?_) AllReadyH.nil
              go_simp
              refine (HIN.out _).mono ?_
              rintro e x1 ⟨rfl, rfl⟩
              go_wp2_with fail
              refine hK.out _ _ ((by first | exact hHeld0 | (obtain ⟨a1, a2, a3, a4⟩ := hHeld0; exact ⟨a1, a2, a3, a4⟩))) (fun hHeld1 => ?_)
              clear hK K
              try simp only [Act.put, List.getElem_toArray, List.getElem_cons_zero, List.getElem_cons_succ, List.setIfInBounds_toArray, List.set_cons_zero, List.set_cons_succ]
              refine wpAnyH_take (i := 6) (v := ?vqft6) rfl (by kernel_rfl) (by kernel_rfl) (by kernel_rfl) (fun _ _ _ h => h) (Or.inl ⟨by kernel_rfl, ?yqft6⟩) hHeld1 ?rqft6
              case yqft6 => (intro w' hS; (try dsimp only at hS); obtain ⟨s0, s1, s2, s3⟩ := hS; (try go_simp); (try with_reducible rfl))
              try simp only [Act.put, List.getElem_toArray, List.getElem_cons_zero, List.getElem_cons_succ, List.setIfInBounds_toArray, List.set_cons_zero, List.set_cons_succ]
              refine wpAnyH_take (i := 7) (v := ?vqft7) rfl (by kernel_rfl) (by kernel_rfl) (by kernel_rfl) (fun _ _ _ h => h) (Or.inl ⟨by kernel_rfl, ?yqft7⟩) hHeld1 ?rqft7
              case yqft7 => (intro w' hS; (try dsimp only at hS); obtain ⟨s0, s1, s2, s3⟩ := hS; (try go_simp); (try with_reducible rfl))
              try simp only [Act.put, List.getElem_toArray, List.getElem_cons_zero, List.getElem_cons_succ, List.setIfInBounds_toArray, List.set_cons_zero, List.set_cons_succ]
              refine wpAnyH_take (i := 8) (v := ?vqft8) rfl (by kernel_rfl) (by kernel_rfl) (by kernel_rfl) (fun _ _ _ h => h) (Or.inl ⟨by kernel_rfl, ?yqft8⟩) hHeld1 ?rqft8
              case yqft8 => (intro w' hS; (try dsimp only at hS); obtain ⟨s0, s1, s2, s3⟩ := hS; (try go_simp); (try with_reducible rfl))
              try simp only [Act.put, List.getElem_toArray, List.getElem_cons_zero, List.getElem_cons_succ, List.setIfInBounds_toArray, List.set_cons_zero, List.set_cons_succ]
              refine wpAnyH_take (i := 9) (v := ?vqft9) rfl (by kernel_rfl) (by kernel_rfl) (by kernel_rfl) (fun _ _ _ h => h) (Or.inl ⟨by kernel_rfl, ?yqft9⟩) hHeld1 ?rqft9
              case yqft9 => (intro w' hS; (try dsimp only at hS); obtain ⟨s0, s1, s2, s3⟩ := hS; (try go_simp); (try with_reducible rfl))
              try simp only [Act.put, List.getElem_toArray, List.getElem_cons_zero, List.getElem_cons_succ, List.setIfInBounds_toArray, List.set_cons_zero, List.set_cons_succ]
              refine wpAnyH_take (i := 10) (v := undef) rfl (by kernel_rfl) (by kernel_rfl) (by kernel_rfl) (fun _ _ _ h => h) (Or.inr ⟨by kernel_rfl, rfl⟩) hHeld1 ?_
              try simp only [Act.put, List.getElem_toArray, List.getElem_cons_zero, List.getElem_cons_succ, List.setIfInBounds_toArray, List.set_cons_zero, List.set_cons_succ]
              refine wpAnyH_take (i := 11) (v := undef) rfl (by kernel_rfl) (by kernel_rfl) (by kernel_rfl) (fun _ _ _ h => h) (Or.inr ⟨by kernel_rfl, rfl⟩) hHeld1 ?_
              try simp only [Act.put, List.getElem_toArray, List.getElem_cons_zero, List.getElem_cons_succ, List.setIfInBounds_toArray, List.set_cons_zero, List.set_cons_succ]
              refine wpAnyH_take (i := 12) (v := undef) rfl (by kernel_rfl) (by kernel_rfl) (by kernel_rfl) (fun _ _ _ h => h) (Or.inr ⟨by kernel_rfl, rfl⟩) hHeld1 ?_
              try simp only [Act.put, List.getElem_toArray, List.getElem_cons_zero, List.getElem_cons_succ, List.setIfInBounds_toArray, List.set_cons_zero, List.set_cons_succ]
              refine wpAnyH_take (i := 13) (v := ?vqft10) rfl (by kernel_rfl) (by kernel_rfl) (by kernel_rfl) (fun _ _ _ h => h) (Or.inl ⟨by kernel_rfl, ?yqft10⟩) hHeld1 ?rqft10
              case yqft10 => (intro w' hS; (try dsimp only at hS); obtain ⟨s0, s1, s2, s3⟩ := hS; (try go_simp); (try with_reducible rfl))
              try simp only [Act.put, List.getElem_toArray, List.getElem_cons_zero, List.getElem_cons_succ, List.setIfInBounds_toArray, List.set_cons_zero, List.set_cons_succ]
              refine wpAnyH_take (i := 14) (v := ?vqft11) rfl (by kernel_rfl) (by kernel_rfl) (by kernel_rfl) (fun _ _ _ h => h) (Or.inl ⟨by kernel_rfl, ?yqft11⟩) hHeld1 ?rqft11
              case yqft11 => (intro w' hS; (try dsimp only at hS); obtain ⟨s0, s1, s2, s3⟩ := hS; (try go_simp); (try with_reducible rfl))
              try simp only [Act.put, List.getElem_toArray, List.getElem_cons_zero, List.getElem_cons_succ, List.setIfInBounds_toArray, List.set_cons_zero, List.set_cons_succ]
              refine wpAnyH_take (i := 15) (v := undef) rfl (by kernel_rfl) (by kernel_rfl) (by kernel_rfl) (fun _ _ _ h => h) (Or.inr ⟨by kernel_rfl, rfl⟩) hHeld1 ?_
              try simp only [Act.put, List.getElem_toArray, List.getElem_cons_zero, List.getElem_cons_succ, List.setIfInBounds_toArray, List.set_cons_zero, List.set_cons_succ]
              refine wpAnyH_take (i := 16) (v := undef) rfl (by kernel_rfl) (by kernel_rfl) (by kernel_rfl) (fun _ _ _ h => h) (Or.inr ⟨by kernel_rfl, rfl⟩) hHeld1 ?_
              try simp only [Act.put, List.getElem_toArray, List.getElem_cons_zero, List.getElem_cons_succ, List.setIfInBounds_toArray, List.set_cons_zero, List.set_cons_succ]
              refine wpAnyH_take (i := 17) (v := undef) rfl (by kernel_rfl) (by kernel_rfl) (by kernel_rfl) (fun _ _ _ h => h) (Or.inr ⟨by kernel_rfl, rfl⟩) hHeld1 ?_
              try simp only [Act.put, List.getElem_toArray, List.getElem_cons_zero, List.getElem_cons_succ, List.setIfInBounds_toArray, List.set_cons_zero, List.set_cons_succ]
              refine wpAnyH_take (i := 18) (v := undef) rfl (by kernel_rfl) (by kernel_rfl) (by kernel_rfl) (fun _ _ _ h => h) (Or.inr ⟨by kernel_rfl, rfl⟩) hHeld1 ?_
              try simp only [Act.put, List.getElem_toArray, List.getElem_cons_zero, List.getElem_cons_succ, List.setIfInBounds_toArray, List.set_cons_zero, List.set_cons_succ]
              refine wpAnyH_take (i := 19) (v := undef) rfl (by kernel_rfl) (by kernel_rfl) (by kernel_rfl) (fun _ _ _ h => h) (Or.inr ⟨by kernel_rfl, rfl⟩) hHeld1 ?_
              try simp only [Act.put, List.getElem_toArray, List.getElem_cons_zero, List.getElem_cons_succ, List.setIfInBounds_toArray, List.set_cons_zero, List.set_cons_succ]
              refine wpAnyH_take (i := 20) (v := undef) rfl (by kernel_rfl) (by kernel_rfl) (by kernel_rfl) (fun _ _ _ h => h) (Or.inr ⟨by kernel_rfl, rfl⟩) hHeld1 ?_
              try simp only [Act.put, List.getElem_toArray, List.getElem_cons_zero, List.getElem_cons_succ, List.setIfInBounds_toArray, List.set_cons_zero, List.set_cons_succ]
              refine wpAnyH_take (i := 21) (v := undef) rfl (by kernel_rfl) (by kernel_rfl) (by kernel_rfl) (fun _ _ _ h => h) (Or.inr ⟨by kernel_rfl, rfl⟩) hHeld1 ?_
              try simp only [Act.put, List.getElem_toArray, List.getElem_cons_zero, List.getElem_cons_succ, List.setIfInBounds_toArray, List.set_cons_zero, List.set_cons_succ]
              refine wpAnyH_take (i := 22) (v := undef) rfl (by kernel_rfl) (by kernel_rfl) (by kernel_rfl) (fun _ _ _ h => h) (Or.inr ⟨by kernel_rfl, rfl⟩) hHeld1 ?_
              try simp only [Act.put, List.getElem_toArray, List.getElem_cons_zero, List.getElem_cons_succ, List.setIfInBounds_toArray, List.set_cons_zero, List.set_cons_succ]
              refine wpAnyH_take (i := 23) (v := ?vqft12) rfl (by kernel_rfl) (by kernel_rfl) (by kernel_rfl) (fun _ _ _ h => h) (Or.inl ⟨by kernel_rfl, ?yqft12⟩) hHeld1 ?rqft12
              case yqft12 => (intro w' hS; (try dsimp only at hS); obtain ⟨s0, s1, s2, s3⟩ := hS; (try go_simp); (try with_reducible rfl))
              try simp only [Act.put, List.getElem_toArray, List.getElem_cons_zero, List.getElem_cons_succ, List.setIfInBounds_toArray, List.set_cons_zero, List.set_cons_succ]
              refine wpAnyH_take (i := 24) (v := ?vqft13) rfl (by kernel_rfl) (by kernel_rfl) (by kernel_rfl) (fun _ _ _ h => h) (Or.inl ⟨by kernel_rfl, ?yqft13⟩) hHeld1 ?rqft13
              case yqft13 => (intro w' hS; (try dsimp only at hS); obtain ⟨s0, s1, s2, s3⟩ := hS; (try go_simp); (try with_reducible rfl))
              try simp only [Act.put, List.getElem_toArray, List.getElem_cons_zero, List.getElem_cons_succ, List.setIfInBounds_toArray, List.set_cons_zero, List.set_cons_succ]
              refine wpAnyH_done (by kernel_rfl) ?_ _
              go_wp2
              go_roundw
              (case rel => exact ⟨k + 1, by omega, by go_num, hBn, hx⟩)
              (case measure => simp [intOf]; omega)
            · have hx := hT2.out
              rw [if_neg hvo] at hx
              replace hx := Lib.hid hx
              have HIN := Lib.hid (fun X => (spec_l6In v 0 9 X).mono (fun e w' (h : e = .returned (.bool (valB v)) ∧ X = w') => (show e = .returned (.bool false) ∧ X = w' from by rw [show valB v = false from by simpa using hvo] at h; exact h)))
              clear hT2 hvo
              refine wp_region_held_drew (S := fun X => X.cell? ⟨w.heap.size, 1, none⟩ = some (.slice (some ⟨db, dO, none⟩) 6 d) ∧ X.cell? ⟨db, dO + k, none⟩ = some (.int .i64 v) ∧ X.cell? ⟨R, 0, none⟩ = some (.int .i64 r.kind) ∧ X.cell? ⟨R, 3, none⟩ = some (.int .i64 r.val)) (by kernel_rfl) ⟨y1, cv, z0, z3⟩ (fun hHeld0 => ?_)
              refine wpAnyH_take (i := 0) (v := ?vqff1) rfl (by kernel_rfl) (by kernel_rfl) (by kernel_rfl) (fun _ _ _ h => h) (Or.inl ⟨by kernel_rfl, ?yqff1⟩) hHeld0 ?rqff1
              case yqff1 => (intro w' hS; (try dsimp only at hS); obtain ⟨s0, s1, s2, s3⟩ := hS; (try go_simp); (try with_reducible rfl))
              try simp only [Act.put, List.getElem_toArray, List.getElem_cons_zero, List.getElem_cons_succ, List.setIfInBounds_toArray, List.set_cons_zero, List.set_cons_succ]
              refine wpAnyH_take (i := 1) (v := ?vqff2) rfl (by kernel_rfl) (by kernel_rfl) (by kernel_rfl) (fun _ _ _ h => h) (Or.inl ⟨by kernel_rfl, ?yqff2⟩) hHeld0 ?rqff2
              case yqff2 => (intro w' hS; (try dsimp only at hS); obtain ⟨s0, s1, s2, s3⟩ := hS; (try go_simp); (try with_reducible rfl))
              try simp only [Act.put, List.getElem_toArray, List.getElem_cons_zero, List.getElem_cons_succ, List.setIfInBounds_toArray, List.set_cons_zero, List.set_cons_succ]
              refine wpAnyH_take (i := 2) (v := ?vqff3) rfl (by kernel_rfl) (by kernel_rfl) (by kernel_rfl) (fun _ _ _ h => h) (Or.inl ⟨by kernel_rfl, ?yqff3⟩) hHeld0 ?rqff3
              case yqff3 => (intro w' hS; (try dsimp only at hS); obtain ⟨s0, s1, s2, s3⟩ := hS; (try go_simp); (try with_reducible rfl))
              try simp only [Act.put, List.getElem_toArray, List.getElem_cons_zero, List.getElem_cons_succ, List.setIfInBounds_toArray, List.set_cons_zero, List.set_cons_succ]
              refine wpAnyH_take (i := 3) (v := ?vqff4) rfl (by kernel_rfl) (by kernel_rfl) (by kernel_rfl) (fun _ _ _ h => h) (Or.inl ⟨by kernel_rfl, ?yqff4⟩) hHeld0 ?rqff4
              case yqff4 => (intro w' hS; (try dsimp only at hS); obtain ⟨s0, s1, s2, s3⟩ := hS; (try go_simp); (try with_reducible rfl))
              try simp only [Act.put, List.getElem_toArray, List.getElem_cons_zero, List.getElem_cons_succ, List.setIfInBounds_toArray, List.set_cons_zero, List.set_cons_succ]
              refine wpAnyH_take (i := 4) (v := ?vqff5) rfl (by kernel_rfl) (by kernel_rfl) (by kernel_rfl) (fun _ _ _ h => h) (Or.inl ⟨by kernel_rfl, ?yqff5⟩) hHeld0 ?rqff5
              case yqff5 => (intro w' hS; (try dsimp only at hS); obtain ⟨s0, s1, s2, s3⟩ := hS; (try go_simp); (try with_reducible rfl))
              try simp only [Act.put, List.getElem_toArray, List.getElem_cons_zero, List.getElem_cons_succ, List.setIfInBounds_toArray, List.set_cons_zero, List.set_cons_succ]
              refine wpAnyH_ready (rs := [5]) (by kernel_rfl) (by simp) ?_
              refine AllReadyH.cons rfl (fun K hK => ?_) AllReadyH.nil
              go_simp
              refine (HIN.out _).mono ?_
              rintro e x1 ⟨rfl, rfl⟩
              go_wp2_with fail
              refine hK.out _ _ ((by first | exact hHeld0 | (obtain ⟨a1, a2, a3, a4⟩ := hHeld0; exact ⟨a1, a2, a3, a4⟩))) (fun hHeld1 => ?_)
              clear hK K
              try simp only [Act.put, List.getElem_toArray, List.getElem_cons_zero, List.getElem_cons_succ, List.setIfInBounds_toArray, List.set_cons_zero, List.set_cons_succ]
              refine wpAnyH_take (i := 6) (v := ?vqff6) rfl (by kernel_rfl) (by kernel_rfl) (by kernel_rfl) (fun _ _ _ h => h) (Or.inl ⟨by kernel_rfl, ?yqff6⟩) hHeld1 ?rqff6
              case yqff6 => (intro w' hS; (try dsimp only at hS); obtain ⟨s0, s1, s2, s3⟩ := hS; (try go_simp); (try with_reducible rfl))
              try simp only [Act.put, List.getElem_toArray, List.getElem_cons_zero, List.getElem_cons_succ, List.setIfInBounds_toArray, List.set_cons_zero, List.set_cons_succ]
              refine wpAnyH_take (i := 7) (v := ?vqff7) rfl (by kernel_rfl) (by kernel_rfl) (by kernel_rfl) (fun _ _ _ h => h) (Or.inl ⟨by kernel_rfl, ?yqff7⟩) hHeld1 ?rqff7
              case yqff7 => (intro w' hS; (try dsimp only at hS); obtain ⟨s0, s1, s2, s3⟩ := hS; (try go_simp); (try with_reducible rfl))
              try simp only [Act.put, List.getElem_toArray, List.getElem_cons_zero, List.getElem_cons_succ, List.setIfInBounds_toArray, List.set_cons_zero, List.set_cons_succ]
              refine wpAnyH_take (i := 8) (v := undef) rfl (by kernel_rfl) (by kernel_rfl) (by kernel_rfl) (fun _ _ _ h => h) (Or.inr ⟨by kernel_rfl, rfl⟩) hHeld1 ?_
              try simp only [Act.put, List.getElem_toArray, List.getElem_cons_zero, List.getElem_cons_succ, List.setIfInBounds_toArray, List.set_cons_zero, List.set_cons_succ]
              refine wpAnyH_take (i := 9) (v := undef) rfl (by kernel_rfl) (by kernel_rfl) (by kernel_rfl) (fun _ _ _ h => h) (Or.inr ⟨by kernel_rfl, rfl⟩) hHeld1 ?_
              try simp only [Act.put, List.getElem_toArray, List.getElem_cons_zero, List.getElem_cons_succ, List.setIfInBounds_toArray, List.set_cons_zero, List.set_cons_succ]
              refine wpAnyH_take (i := 10) (v := undef) rfl (by kernel_rfl) (by kernel_rfl) (by kernel_rfl) (fun _ _ _ h => h) (Or.inr ⟨by kernel_rfl, rfl⟩) hHeld1 ?_
              try simp only [Act.put, List.getElem_toArray, List.getElem_cons_zero, List.getElem_cons_succ, List.setIfInBounds_toArray, List.set_cons_zero, List.set_cons_succ]
              refine wpAnyH_take (i := 11) (v := undef) rfl (by kernel_rfl) (by kernel_rfl) (by kernel_rfl) (fun _ _ _ h => h) (Or.inr ⟨by kernel_rfl, rfl⟩) hHeld1 ?_
              try simp only [Act.put, List.getElem_toArray, List.getElem_cons_zero, List.getElem_cons_succ, List.setIfInBounds_toArray, List.set_cons_zero, List.set_cons_succ]
              refine wpAnyH_take (i := 12) (v := undef) rfl (by kernel_rfl) (by kernel_rfl) (by kernel_rfl) (fun _ _ _ h => h) (Or.inr ⟨by kernel_rfl, rfl⟩) hHeld1 ?_
              try simp only [Act.put, List.getElem_toArray, List.getElem_cons_zero, List.getElem_cons_succ, List.setIfInBounds_toArray, List.set_cons_zero, List.set_cons_succ]
              refine wpAnyH_take (i := 13) (v := undef) rfl (by kernel_rfl) (by kernel_rfl) (by kernel_rfl) (fun _ _ _ h => h) (Or.inr ⟨by kernel_rfl, rfl⟩) hHeld1 ?_
              try simp only [Act.put, List.getElem_toArray, List.getElem_cons_zero, List.getElem_cons_succ, List.setIfInBounds_toArray, List.set_cons_zero, List.set_cons_succ]
              refine wpAnyH_take (i := 14) (v := undef) rfl (by kernel_rfl) (by kernel_rfl) (by kernel_rfl) (fun _ _ _ h => h) (Or.inr ⟨by kernel_rfl, rfl⟩) hHeld1 ?_
              try simp only [Act.put, List.getElem_toArray, List.getElem_cons_zero, List.getElem_cons_succ, List.setIfInBounds_toArray, List.set_cons_zero, List.set_cons_succ]
              refine wpAnyH_take (i := 15) (v := undef) rfl (by kernel_rfl) (by kernel_rfl) (by kernel_rfl) (fun _ _ _ h => h) (Or.inr ⟨by kernel_rfl, rfl⟩) hHeld1 ?_
              try simp only [Act.put, List.getElem_toArray, List.getElem_cons_zero, List.getElem_cons_succ, List.setIfInBounds_toArray, List.set_cons_zero, List.set_cons_succ]
              refine wpAnyH_take (i := 16) (v := undef) rfl (by kernel_rfl) (by kernel_rfl) (by kernel_rfl) (fun _ _ _ h => h) (Or.inr ⟨by kernel_rfl, rfl⟩) hHeld1 ?_
              try simp only [Act.put, List.getElem_toArray, List.getElem_cons_zero, List.getElem_cons_succ, List.setIfInBounds_toArray, List.set_cons_zero, List.set_cons_succ]
              refine wpAnyH_take (i := 17) (v := undef) rfl (by kernel_rfl) (by kernel_rfl) (by kernel_rfl) (fun _ _ _ h => h) (Or.inr ⟨by kernel_rfl, rfl⟩) hHeld1 ?_
              try simp only [Act.put, List.getElem_toArray, List.getElem_cons_zero, List.getElem_cons_succ, List.setIfInBounds_toArray, List.set_cons_zero, List.set_cons_succ]
              refine wpAnyH_take (i := 18) (v := undef) rfl (by kernel_rfl) (by kernel_rfl) (by kernel_rfl) (fun _ _ _ h => h) (Or.inr ⟨by kernel_rfl, rfl⟩) hHeld1 ?_
              try simp only [Act.put, List.getElem_toArray, List.getElem_cons_zero, List.getElem_cons_succ, List.setIfInBounds_toArray, List.set_cons_zero, List.set_cons_succ]
              refine wpAnyH_take (i := 19) (v := undef) rfl (by kernel_rfl) (by kernel_rfl) (by kernel_rfl) (fun _ _ _ h => h) (Or.inr ⟨by kernel_rfl, rfl⟩) hHeld1 ?_
              try simp only [Act.put, List.getElem_toArray, List.getElem_cons_zero, List.getElem_cons_succ, List.setIfInBounds_toArray, List.set_cons_zero, List.set_cons_succ]
              refine wpAnyH_take (i := 20) (v := undef) rfl (by kernel_rfl) (by kernel_rfl) (by kernel_rfl) (fun _ _ _ h => h) (Or.inr ⟨by kernel_rfl, rfl⟩) hHeld1 ?_
              try simp only [Act.put, List.getElem_toArray, List.getElem_cons_zero, List.getElem_cons_succ, List.setIfInBounds_toArray, List.set_cons_zero, List.set_cons_succ]
              refine wpAnyH_take (i := 21) (v := undef) rfl (by kernel_rfl) (by kernel_rfl) (by kernel_rfl) (fun _ _ _ h => h) (Or.inr ⟨by kernel_rfl, rfl⟩) hHeld1 ?_
              try simp only [Act.put, List.getElem_toArray, List.getElem_cons_zero, List.getElem_cons_succ, List.setIfInBounds_toArray, List.set_cons_zero, List.set_cons_succ]
              refine wpAnyH_take (i := 22) (v := undef) rfl (by kernel_rfl) (by kernel_rfl) (by kernel_rfl) (fun _ _ _ h => h) (Or.inr ⟨by kernel_rfl, rfl⟩) hHeld1 ?_
              try simp only [Act.put, List.getElem_toArray, List.getElem_cons_zero, List.getElem_cons_succ, List.setIfInBounds_toArray, List.set_cons_zero, List.set_cons_succ]
              refine wpAnyH_take (i := 23) (v := undef) rfl (by kernel_rfl) (by kernel_rfl) (by kernel_rfl) (fun _ _ _ h => h) (Or.inr ⟨by kernel_rfl, rfl⟩) hHeld1 ?_
              try simp only [Act.put, List.getElem_toArray, List.getElem_cons_zero, List.getElem_cons_succ, List.setIfInBounds_toArray, List.set_cons_zero, List.set_cons_succ]
              refine wpAnyH_take (i := 24) (v := ?vqff8) rfl (by kernel_rfl) (by kernel_rfl) (by kernel_rfl) (fun _ _ _ h => h) (Or.inl ⟨by kernel_rfl, ?yqff8⟩) hHeld1 ?rqff8
              case yqff8 => (intro w' hS; (try dsimp only at hS); obtain ⟨s0, s1, s2, s3⟩ := hS; (try go_simp); (try with_reducible rfl))
              try simp only [Act.put, List.getElem_toArray, List.getElem_cons_zero, List.getElem_cons_succ, List.setIfInBounds_toArray, List.set_cons_zero, List.set_cons_succ]
              refine wpAnyH_done (by kernel_rfl) ?_ _
              go_wp2
              go_ret
              exact ⟨ret_bool (by rw [hfin2.out, hx.out]), hBf⟩
        · have hk6 : (6 : Int) ≤ (k : Int) := by omega
          have hx : Hid (diskGo s.flash 0 s.disk = true) := by rw [Hid, hT.out, List.drop_of_length_le (by rw [H6.out]; omega)]; rfl
          clear hT
          go_wp2
          go_ret
          exact ⟨ret_bool (by rw [hfin2.out, hx.out]), hB1.trans (hB.mono (by omega))⟩
    · have hfin2 : Hid (storeOk s = false) := by rw [Hid, hfin.out, if_neg h6]
      have h6' : ((s.disk.length : Int) != 6) = true := by rw [bne_iff_ne]; omega
      clear h6 hfin
      go_wp2
      go_ret
      exact ⟨ret_bool hfin2.out.symm, hB1⟩
  · have hfin2 : Hid (storeOk s = false) := by unfold Hid storeOk; rw [if_neg hord]; split <;> rfl
    rw [show findOrderI s.flash = false from by simpa using hord]
    clear hord
    go_wp2
    go_ret
    exact ⟨ret_bool hfin2.out.symm, hB1⟩
end Go.Proofs.Ytbekihiiildgmaa
namespace Go.Proofs.Ytbekihiiildgmaa
set_option linter.unusedVariables false
set_option linter.unusedSimpArgs false
open Go.RowKit Go.Maps
set_option maxHeartbeats 400000
theorem storeOk_parts {s : St} (h : storeOk s = true) : s.disk.length = 6 ∧ findOrderI s.flash = true ∧ diskGo s.flash 0 s.disk = true := by
  unfold storeOk at h
  split at h
  · rename_i h1
    split at h
    · rename_i h2; exact ⟨h1, h2, h⟩
    · cases h
  · cases h
/-- a row of whole numbers of one's own, in a block from base on -/
def OwnI (w : World) (base : Nat) (v : Value) (xs : List Int) : Prop := w.ownsRow base 3 1 v xs.length (ints xs)
theorem OwnI.below {w w' : World} {base B : Nat} {v : Value} {xs : List Int} (h : OwnI w base v xs) (hb : Below B w w') (hB : w.heap.size ≤ B) : OwnI w' base v xs := ownsRow_keep h fun b _ hl => hb.block b (by omega)
theorem OwnI.agr {w w' : World} {base : Nat} {v : Value} {xs : List Int} {S : Nat → Prop} (h : OwnI w base v xs) (hb : Agr S w w') (hS : ∀ b, base ≤ b → ¬ S b) : OwnI w' base v xs := by
  refine ownsRow_keep h fun b hbl hl => hb.block b hl (hS b ?_)
  exact (World.ownsRow.lt h b hbl).1
theorem OwnI.alloc {w : World} {base : Nat} {v : Value} {xs : List Int} (h : OwnI w base v xs) (o : Obj) : OwnI (w.alloc o) base v xs := h.below (B := w.heap.size) ((Below.refl _ _).alloc (Nat.le_refl _) _) (Nat.le_refl _)
theorem OwnI.nil (w : World) (base : Nat) : OwnI w base (.slice none 0 0) [] := World.ownsRow_nil w base _ _
theorem OwnI.snoc {w : World} {base g n c : Nat} {xs : List Int} {x : Int} (hn : n = xs.length + 1) (h : w.ownsRow base 3 1 (.slice (some ⟨g, 0, none⟩) (xs.length + 1) c) (xs.length + 1) (ints xs ++ [.int .i64 x])) : OwnI w base (.slice (some ⟨g, 0, none⟩) n c) (xs ++ [x]) := by
  subst hn
  unfold OwnI ints
  rw [List.length_append, List.map_append]
  exact h
/-- a slice of one's own, written out -/
theorem OwnI.out {w : World} {base : Nat} {v : Value} {xs : List Int} (h : OwnI w base v xs) : ∃ A c, v = .slice A xs.length c ∧ Row w A (ints xs) ∧ (∀ b, blk A b → base ≤ b ∧ b < w.heap.size) ∧ xs.length ≤ c := by
  have h' := h
  obtain ⟨hl, ⟨hv, hz⟩ | ⟨g, cap, cur, hv, hb, hh, hnc, hm, hs, ht⟩⟩ := h
  · have hxs : xs = [] := List.eq_nil_of_length_eq_zero hz
    subst hxs
    exact ⟨none, 0, hv, Row.nil _ _, (fun b hb => by cases hb), Nat.le_refl _⟩
  · refine ⟨some ⟨g, 0, none⟩, cap, hv, ?_, fun b hb' => ?_, hnc⟩
    · rw [hv] at h'; exact Row.of_own h'
    · rw [blk_some] at hb'
      subst hb'
      exact ⟨hb, (Array.getElem?_eq_some_iff.1 hh).1⟩
end Go.Proofs.Ytbekihiiildgmaa
namespace Go.Proofs.Ytbekihiiildgmaa
set_option linter.unusedVariables false
set_option linter.unusedSimpArgs false
open Go.RowKit Go.Maps
set_option maxHeartbeats 400000
theorem OwnI.lit (w : World) (base : Nat) (hb : base ≤ w.heap.size) : OwnI (w.alloc (.cells #[] 3)) base (.slice (some ⟨w.heap.size, 0, none⟩) 0 0) [] := World.ownsRow_lit w #[] 0 hb (by unfold maxLen; omega) rfl
end Go.Proofs.Ytbekihiiildgmaa
namespace Go.Proofs.Ytbekihiiildgmaa
set_option linter.unusedVariables false
set_option linter.unusedSimpArgs false
theorem lastPs_none {a : Int} : ∀ {ps : List Pg} {o : Rc}, (∀ p ∈ ps, p.state ≠ 1) → lastPs a o ps = o
  | [], _, _ => rfl
  | p :: ps, o, h => by
    show lastPs a (lastStep a o p) ps = o
    have : lastStep a o p = o := by unfold lastStep; rw [if_neg (fun e => h p (List.mem_cons_self ..) e.1)]
    rw [this]
    exact lastPs_none fun q hq => h q (List.mem_cons_of_mem _ hq)
theorem last_none : ∀ {f : List Bk} {a : Int} {o : Rc}, (∀ b ∈ f, ∀ p ∈ b.pages, p.state ≠ 1) → f.foldl (fun o b => lastPs a o b.pages) o = o
  | [], _, _, _ => rfl
  | b :: f, a, o, h => by
    rw [List.foldl_cons, lastPs_none (h b (List.mem_cons_self ..))]
    exact last_none fun c hc => h c (List.mem_cons_of_mem _ hc)
theorem new_pages : ∀ b ∈ flashNew, ∀ p ∈ b.pages, p.state ≠ 1 := by decide
theorem last_new (a : Int) : last flashNew a = rc0 := last_none new_pages
theorem order_new : findOrderI flashNew = true := by decide
theorem diskGo_new : ∀ {xs : List Int} {i : Nat}, (∀ v ∈ xs, valB v = true) → diskGo flashNew i xs = true
  | [], _, _ => rfl
  | x :: xs, i, h => by
    unfold diskGo
    rw [if_pos (h x (List.mem_cons_self ..)), if_neg]
    · exact diskGo_new fun v hv => h v (List.mem_cons_of_mem _ hv)
    · unfold diskBad
      rw [last_new]
      rintro ⟨h0, _⟩
      exact absurd h0 (by decide)
theorem wiped_store {xs : List Int} (h6 : xs.length = 6) (hv : ∀ v ∈ xs, valB v = true) : storeOk ⟨flashNew, xs⟩ = true := by
  unfold storeOk
  rw [if_pos h6, if_pos order_new]
  exact diskGo_new hv
theorem disk0_vals : ∀ v ∈ disk0, valB v = true := by decide
theorem new_ok : storeOk ⟨flashNew, disk0⟩ = true := wiped_store rfl disk0_vals
end Go.Proofs.Ytbekihiiildgmaa
