/- Walks: a law over steps: FnPutAll. -/
import Derived.Test.YtobjanikfbkplaaY9
namespace Go.Proofs.Ytobjanikfbkplaa
set_option linter.unusedVariables false
set_option linter.unusedSimpArgs false
open Go.RowKit Go.Maps
set_option maxHeartbeats 400000
theorem impl_StoreAll_g {s : St} (hs : Okay s) (A D : Option Addr) (c d : Nat) (w : World) (hF : Fl w A s.flash) (hD : Row w D (ints s.disk)) :
    Calls Try.prog 10 #[.agg #[.slice A 4 c, .slice D 6 d]] w fun e w' => ∃ g, e = .returned (.slice (some ⟨g, 0, none⟩) 6 6) ∧ w.heap.size ≤ g ∧ Row w' (some ⟨g, 0, none⟩) (ints (allV s)) ∧ Below w.heap.size w w' :=
  (impl_StoreAll s A D 4 6 c d w (flashOk_len hs.flash).symm hs.len.symm hF hD).mono fun e w' q => by
    obtain ⟨hb, ⟨_, g, rfl, h1, h2⟩ | ⟨h, _⟩⟩ := q
    · exact ⟨g, rfl, h1, h2, hb⟩
    · rw [storeOk_iff.2 hs] at h; cases h
theorem impl_StoreAll_lo {s : St} (hs : Okay s) (A D : Option Addr) (c d : Nat) (w : World) (hF : Fl w A s.flash) (hD : Row w D (ints s.disk)) :
    Calls Try.prog 10 #[.agg #[.slice A 4 c, .slice D 6 d]] w fun e w' => ∃ A' c', e = .returned (.slice A' 6 c') ∧ Row w' A' (ints (allV s)) ∧ (∀ b, blk A' b → w.heap.size ≤ b) ∧ Below w.heap.size w w' :=
  (impl_StoreAll_g hs A D c d w hF hD).mono fun e w' ⟨g, h1, h2, h3, h4⟩ => ⟨some ⟨g, 0, none⟩, 6, h1, h3, fun b hb => by rw [blk_some] at hb; omega, h4⟩
set_option maxHeartbeats 8000000 in
set_option maxRecDepth 100000 in
theorem law_FnPutAll {w : World} (A : Option Addr) (bs : List Nat) (c : Nat) (hc : Code w A bs c) :
    Calls Try.prog 3 #[.slice A bs.length c] w fun e w' => e = .returned (.bool true) ∧ Below w.heap.size w w' := by
  by_cases hlen : (1048576 : Int) < bs.length
  · go_enter Try.func3, Try.ntmps3
    go_wp2
    go_ret
    exact ⟨rfl, Below.refl _ _⟩
  go_enter Try.func3, Try.ntmps3
  go_wp2_with fail
  refine (spec_DrawStepsPut A bs c _ hc).mono ?_
  rintro e w1 ⟨A1, D1, c1, d1, s, a, v, rfl, ha, hv, hsm, hO, hB1⟩
  have hs1 := hB1.size
  have HSM := Lib.hid hsm
  have HA := Lib.hid ha
  clear hsm ha
  have hHbx := Held.new w1 (c := c1) (d := d1) hO.ofl.fl hO.disk rfl rfl
  have hBW1 := hB1.alloc hB1.size (.cells #[.slice A1 s.flash.length c1, .slice D1 s.disk.length d1] 26)
  have hzW1 : (w1.alloc (.cells #[.slice A1 s.flash.length c1, .slice D1 s.disk.length d1] 26)).heap.size = w1.heap.size + 1 := by simp
  obtain ⟨W1, hEW1⟩ : ∃ W, w1.alloc (.cells #[.slice A1 s.flash.length c1, .slice D1 s.disk.length d1] 26) = W := ⟨_, rfl⟩
  obtain ⟨bx, hEbx⟩ : ∃ b, w1.heap.size = b := ⟨_, rfl⟩
  rw [hEW1] at hHbx hBW1 hzW1
  rw [hEbx] at hHbx hzW1
  have x0 := hHbx.x0
  have x1 := hHbx.x1
  clear hB1
  clear hO
  obtain ⟨xs, hxs⟩ : ∃ xs, okSteps s (wr s.flash 1 a v) = xs := ⟨_, rfl⟩
  have HXS := Lib.hid hxs
  clear hxs
  go_wp2_with fail
  refine (impl_StepsPut_x HXS.out A1 D1 _ _ c1 d1 _ hHbx.hn hHbx.hm hHbx.fl hHbx.dk).mono ?_
  rintro e w2 ⟨V, vc, rfl, hX, _, hxc, hb⟩
  have hs2 := hb.size
  have hB2 := hBW1.trans (hb.mono hBW1.size)
  replace hHbx := hHbx.below hb (Nat.le_refl _)
  replace x0 := hHbx.x0
  replace x1 := hHbx.x1
  clear hb hBW1
  go_wp2_with fail
  refine (spec_StepsPut_x HXS.out A1 D1 _ _ c1 d1 _ hHbx.hn hHbx.hm (small_fl HSM.out) hHbx.fl hHbx.dk).mono ?_
  rintro e w3 ⟨V3, vc3, rfl, _, _, _, hb⟩
  have hs3 := hb.size
  have hB3 := hB2.trans (hb.mono hB2.size)
  replace hHbx := hHbx.below hb (Nat.le_refl _)
  replace x0 := hHbx.x0
  replace x1 := hHbx.x1
  replace hX := hX.below hb (Nat.le_refl _)
  clear hb hB2
  have hself : ((xs.length : Int) != (xs.length : Int)) = false := by simp
  by_cases hne : xs = []
  · subst hne
    go_wp2_with fail
    refine (spec_StepsPut_x HXS.out A1 D1 _ _ c1 d1 _ hHbx.hn hHbx.hm (small_fl HSM.out) hHbx.fl hHbx.dk).mono ?_
    rintro e w4 ⟨V4, vc4, rfl, _, _, _, hb⟩
    have hs4 := hb.size
    have hB4 := hB3.trans (hb.mono hB3.size)
    replace hHbx := hHbx.below hb (Nat.le_refl _)
    replace x0 := hHbx.x0
    replace x1 := hHbx.x1
    clear hb hB3
    go_wp2
    go_ret
    exact ⟨rfl, hB4⟩
  · have hpos : ((xs.length : Int) == 0) = false := by rw [beq_eq_false_iff_ne]; have := List.length_pos_iff.2 hne; omega
    obtain ⟨hok, hw⟩ := okSteps_okay (by rw [HXS.out]; exact hne)
    have HX := Lib.hid (HXS.out.symm.trans hw)
    have HOK := Lib.hid hok
    have HNE : Hid (wr s.flash 1 a v ≠ []) := by rw [Hid, ← HX.out]; exact hne
    have HTA : Hid (∀ cut : Int, 0 ≤ cut → ∀ torn, toR s xs cut torn = (doTo s xs cut torn, true)) := by rw [Hid, HX.out]; exact fun cut hc torn => (by have := toR_steps HOK.out ⟨1, a, v, cut, torn⟩ hc torn; rw [ev_put] at this; exact this)
    have hxl : xs.length ≤ 8 := by rw [HX.out]; have := stepsOf_len HOK.out.fine ⟨1, a, v, 0, false⟩; rw [ev_put] at this; exact this
    have HL4 : Hid (s.flash.length = 4) := flashOk_len hok.flash
    have HL6 : Hid (s.disk.length = 6) := hok.len
    rw [HL4.out, HL6.out] at hHbx
    replace x0 := hHbx.x0
    replace x1 := hHbx.x1
    clear hok hw hne
    obtain ⟨t, htd⟩ : ∃ t, doTo s xs (xs.length : Int) false = t := ⟨_, rfl⟩
    have HTR : Hid (toR s xs (xs.length : Int) false = (t, true)) := by rw [Hid, HTA.out _ (by omega), htd]
    have HPA : Hid (PutAll s a v t) := by rw [Hid, ← htd, HX.out]; exact put_all HOK.out HNE.out (by omega) false
    obtain ⟨k, hk, hk6⟩ : ∃ k : Nat, a = (k : Int) + 1 ∧ k < 6 := ⟨(a - 1).toNat, by have := HPA.out.addr; omega, by have := HPA.out.addr; omega⟩
    clear htd HTA HNE
    subst hk
    go_wp2_with fail
    refine (impl_StepsTo_t HTR.out HPA.out.ok.fine (by omega) A1 D1 V 4 6 c1 d1 vc _ _ hHbx.hn hHbx.hm rfl hHbx.fl hHbx.dk hX).mono ?_
    rintro e w4 ⟨A4, c4, D4, d4, rfl, hF4, hD4, _, hb⟩
    have hs4 := hb.size
    have hB4 := hB3.trans (hb.mono hB3.size)
    replace hHbx := hHbx.below hb (Nat.le_refl _)
    replace x0 := hHbx.x0
    replace x1 := hHbx.x1
    clear hb hB3
    have hHbt := Held.ok HPA.out.ok c4 d4 hF4.fl hD4
    replace hHbx := hHbx.below ((Below.refl w4.heap.size w4).alloc (Nat.le_refl _) (.cells #[.slice A4 4 c4, .slice D4 6 d4] 26)) (Nat.le_refl _)
    have hBW4 := hB4.alloc hB4.size (.cells #[.slice A4 4 c4, .slice D4 6 d4] 26)
    have hzW4 : (w4.alloc (.cells #[.slice A4 4 c4, .slice D4 6 d4] 26)).heap.size = w4.heap.size + 1 := by simp
    obtain ⟨W4, hEW4⟩ : ∃ W, w4.alloc (.cells #[.slice A4 4 c4, .slice D4 6 d4] 26) = W := ⟨_, rfl⟩
    obtain ⟨bt, hEbt⟩ : ∃ b, w4.heap.size = b := ⟨_, rfl⟩
    rw [hEW4] at hHbt hBW4 hzW4 hHbx
    rw [hEbt] at hHbt hzW4
    have t0 := hHbt.x0
    have t1 := hHbt.x1
    replace x0 := hHbx.x0
    replace x1 := hHbx.x1
    clear hB4
    clear hF4 hD4 hX
    go_wp2_with fail
    refine (impl_StoreAll_g HOK.out A1 D1 c1 d1 _ hHbx.fl hHbx.dk).mono ?_
    rintro e w5 ⟨g5, rfl, hg5, hL5, hb5⟩
    have hs5 := hb5.size
    have hg5l := hL5.lt (ints_ne' (by intro e; have := congrArg List.length e; rw [allV_len] at this; simp at this)) (blk_some.2 rfl)
    replace x0 := (hHbx.below hb5 (Nat.le_refl _)).x0
    replace x1 := (hHbx.below hb5 (Nat.le_refl _)).x1
    have hHt5 := hHbt.below hb5 (Nat.le_refl _)
    replace t0 := hHt5.x0
    replace t1 := hHt5.x1
    go_wp2_with fail
    refine (impl_StoreAll_lo HPA.out.ok A4 D4 c4 d4 _ hHt5.fl hHt5.dk).mono ?_
    rintro e w6 ⟨A6, c6, rfl, hL6, hg6, hb6⟩
    have hs6 := hb6.size
    replace hL5 := hL5.below hb6 (Nat.le_refl _)
    replace x0 := (hb6.cell (p := ⟨bx, 0, none⟩) (lt_of_cell x0)).trans x0
    replace x1 := (hb6.cell (p := ⟨bx, 1, none⟩) (lt_of_cell x1)).trans x1
    replace t0 := (hb6.cell (p := ⟨bt, 0, none⟩) (lt_of_cell t0)).trans t0
    replace t1 := (hb6.cell (p := ⟨bt, 1, none⟩) (lt_of_cell t1)).trans t1
    obtain ⟨cg, fg⟩ := hL5.int_ (allV_get s hk6)
    rw [Nat.zero_add] at cg fg
    have e2 : IntKind.i64.wrap ((k : Int) + 1 - 1) = (k : Int) := by rw [IntWalk.i64_in _ (by omega)]; omega
    have e3 : IntKind.i64.wrap (k : Int) = (k : Int) := IntWalk.i64_in _ (by omega)
    have hk1 : (k : Int) < 6 := by omega
    have hWr := wrote_one cg (.int .i64 v)
    have hAg := hWr.agr
    have hN5 : Row (w6.setCell ⟨g5, k, none⟩ (.int .i64 v)) (some ⟨g5, 0, none⟩) (ints (allV t)) := by
      rw [← HPA.out.all, show ((k : Int) + 1 - 1).toNat = k by omega, ints_set]
      exact Wrote.row (w := w6) (by rw [Nat.zero_add]; exact hWr) hL5 (by rw [ints_len, allV_len]; simp; omega)
    have hbt5 : bt < w5.heap.size := by have := lt_of_cell hHbt.x0; omega
    have hL7 : Row (w6.setCell ⟨g5, k, none⟩ (.int .i64 v)) A6 (ints (allV t)) := hL6.agr hAg (fun b hb e => by have := hg6 b hb; omega)
    have hBs : Below W4.heap.size W4 (w6.setCell ⟨g5, k, none⟩ (.int .i64 v)) := (hb5.trans (hb6.mono hs5)).trans (hAg.below (B := W4.heap.size) (by omega) (fun i hi => by omega))
    have hHt7 := hHbt.below hBs (Nat.le_refl _)
    have hB7 := hBW4.trans (hBs.mono hBW4.size)
    replace t0 := hHt7.x0
    replace t1 := hHt7.x1
    clear hWr hAg hL5 hL6 hHt5 hBs
    go_wp2_with fail
    refine (impl_FindLast_r HPA.out.last A4 4 c4 _ hHbt.hn hHt7.fl).mono ?_
    rintro e w8 ⟨rfl, hb⟩
    have hB8 := hB7.trans (hb.mono hB7.size)
    replace hN5 := hN5.below hb (Nat.le_refl _)
    replace hL7 := hL7.below hb (Nat.le_refl _)
    have hHt8 := hHt7.below hb (Nat.le_refl _)
    replace t0 := hHt8.x0
    replace t1 := hHt8.x1
    clear hb hB7 hHt7
    have hbb : Below w8.heap.size w8 (w8.alloc (.cells #[.int .i64 1, .int .i64 (next s.flash), .int .i64 ((k : Int) + 1), .int .i64 v] 35)) := by (repeat (first | (with_reducible exact Below.refl _ _) | (with_reducible assumption) | (refine Below.setCell ?_ (by first | omega | exact hB.size | exact hb.size | (have h := hB.size; simp; omega) | (have h := hb.size; simp; omega) | (simp; omega) | simp) _) | (refine Below.alloc ?_ (by first | omega | exact hB.size | exact hb.size | (have h := hB.size; simp; omega) | (have h := hb.size; simp; omega) | (simp; omega) | simp) _) | (refine Below.drew ?_)))
    have hN9 := hN5.below hbb (Nat.le_refl _)
    have hL9 := hL7.below hbb (Nat.le_refl _)
    have hHt9 := hHt8.below hbb (Nat.le_refl _)
    have hB9 := hB8.trans (hbb.mono hB8.size)
    have g0 : (w8.alloc (.cells #[.int .i64 1, .int .i64 (next s.flash), .int .i64 ((k : Int) + 1), .int .i64 v] 35)).cell? ⟨w8.heap.size, 0, none⟩ = some (.int .i64 1) := by simp
    have hzl : (w8.alloc (.cells #[.int .i64 1, .int .i64 (next s.flash), .int .i64 ((k : Int) + 1), .int .i64 v] 35)).heap.size = w8.heap.size + 1 := by simp
    go_wp2_with fail
    refine (laws_lqInts_6 rfl rfl _ A6 6 c6 _ hN9 hL9).mono ?_
    rintro e w10 ⟨rfl, hb⟩
    have hB10 := hB9.trans (hb.mono hB9.size)
    have hHt10 := hHt9.below hb (Nat.le_refl _)
    replace t0 := hHt10.x0
    replace t1 := hHt10.x1
    replace g0 := (hb.cell (p := ⟨w8.heap.size, 0, none⟩) (by show w8.heap.size < _; omega)).trans g0
    clear hb hbb hN9 hL9 hN5 hL7 hHt9 hHt8 hB9 hB8
    go_wp2_with fail
    refine (impl_StoreOk_ok HPA.out.ok A4 D4 c4 d4 _ hHt10.fl hHt10.dk).mono ?_
    rintro e w11 ⟨rfl, hb⟩
    have hBf := hB10.trans (hb.mono hB10.size)
    go_wp2
    go_ret
    exact ⟨rfl, hBf⟩
end Go.Proofs.Ytobjanikfbkplaa
