/- Walks: a law over steps: FnPutCut. -/
import Derived.Test.YtobjanikfbkplaaY9
namespace Go.Proofs.Ytobjanikfbkplaa
set_option linter.unusedVariables false
set_option linter.unusedSimpArgs false
open Go.RowKit Go.Maps
set_option maxHeartbeats 400000
set_option maxHeartbeats 8000000 in
set_option maxRecDepth 100000 in
theorem law_FnPutCut {w : World} (A : Option Addr) (bs : List Nat) (c : Nat) (hc : Code w A bs c) (A' : Option Addr) (bs' : List Nat) (c' : Nat) (hc' : Code w A' bs' c') :
    Calls Try.prog 4 #[.slice A bs.length c, .slice A' bs'.length c'] w fun e w' => e = .returned (.bool true) ∧ Below w.heap.size w w' := by
  by_cases hlen : (1048576 : Int) < bs.length
  · go_enter Try.func4, Try.ntmps4
    go_wp2
    go_ret
    exact ⟨rfl, Below.refl _ _⟩
  by_cases hlen' : (1048576 : Int) < bs'.length
  · go_enter Try.func4, Try.ntmps4
    go_wp2
    go_ret
    exact ⟨rfl, Below.refl _ _⟩
  go_enter Try.func4, Try.ntmps4
  go_wp2_with fail
  refine (spec_DrawStepsPut A bs c _ hc).mono ?_
  rintro e w1 ⟨A1, D1, c1, d1, s, a, v, rfl, ha, hv, hsm, hO, hB1⟩
  have hs1 := hB1.size
  have HSM := Lib.hid hsm
  have HA := Lib.hid ha
  clear hsm ha
  have hHbx := Held.new w1 (c := c1) (d := d1) hO.ofl.fl hO.disk rfl rfl
  have hBW1 := hB1.alloc hB1.size (.cells #[.slice A1 s.flash.length c1, .slice D1 s.disk.length d1] 26)
  have hzW1 : (w1.alloc (.cells #[.slice A1 s.flash.length c1, .slice D1 s.disk.length d1] 26)).heap.size = w1.heap.size + 1 := by simp
  obtain ⟨W1, hEW1⟩ : ∃ W, w1.alloc (.cells #[.slice A1 s.flash.length c1, .slice D1 s.disk.length d1] 26) = W := ⟨_, rfl⟩
  obtain ⟨bx, hEbx⟩ : ∃ b, w1.heap.size = b := ⟨_, rfl⟩
  rw [hEW1] at hHbx hBW1 hzW1
  rw [hEbx] at hHbx hzW1
  have x0 := hHbx.x0
  have x1 := hHbx.x1
  clear hB1
  clear hO
  obtain ⟨xs, hxs⟩ : ∃ xs, okSteps s (wr s.flash 1 a v) = xs := ⟨_, rfl⟩
  have HXS := Lib.hid hxs
  clear hxs
  go_wp2_with fail
  refine (impl_StepsPut_x HXS.out A1 D1 _ _ c1 d1 _ hHbx.hn hHbx.hm hHbx.fl hHbx.dk).mono ?_
  rintro e w2 ⟨V, vc, rfl, hX, _, hxc, hb⟩
  have hs2 := hb.size
  have hB2 := hBW1.trans (hb.mono hBW1.size)
  replace hHbx := hHbx.below hb (Nat.le_refl _)
  replace x0 := hHbx.x0
  replace x1 := hHbx.x1
  clear hb hBW1
  go_wp2_with fail
  refine (spec_StepsPut_x HXS.out A1 D1 _ _ c1 d1 _ hHbx.hn hHbx.hm (small_fl HSM.out) hHbx.fl hHbx.dk).mono ?_
  rintro e w3 ⟨V3, vc3, rfl, _, _, _, hb⟩
  have hs3 := hb.size
  have hB3 := hB2.trans (hb.mono hB2.size)
  replace hHbx := hHbx.below hb (Nat.le_refl _)
  replace x0 := hHbx.x0
  replace x1 := hHbx.x1
  replace hX := hX.below hb (Nat.le_refl _)
  clear hb hB2
  have hself : ((xs.length : Int) != (xs.length : Int)) = false := by simp
  by_cases hne : xs = []
  · subst hne
    go_wp2_with fail
    refine (spec_StepsPut_x HXS.out A1 D1 _ _ c1 d1 _ hHbx.hn hHbx.hm (small_fl HSM.out) hHbx.fl hHbx.dk).mono ?_
    rintro e w4 ⟨V4, vc4, rfl, _, _, _, hb⟩
    have hs4 := hb.size
    have hB4 := hB3.trans (hb.mono hB3.size)
    replace hHbx := hHbx.below hb (Nat.le_refl _)
    replace x0 := hHbx.x0
    replace x1 := hHbx.x1
    clear hb hB3
    go_wp2
    go_ret
    exact ⟨rfl, hB4⟩
  · have hpos : ((xs.length : Int) == 0) = false := by rw [beq_eq_false_iff_ne]; have := List.length_pos_iff.2 hne; omega
    obtain ⟨hok, hw⟩ := okSteps_okay (by rw [HXS.out]; exact hne)
    have HX := Lib.hid (HXS.out.symm.trans hw)
    have HOK := Lib.hid hok
    have HNE : Hid (wr s.flash 1 a v ≠ []) := by rw [Hid, ← HX.out]; exact hne
    have HTA : Hid (∀ cut : Int, 0 ≤ cut → ∀ torn, toR s xs cut torn = (doTo s xs cut torn, true)) := by rw [Hid, HX.out]; exact fun cut hc torn => (by have := toR_steps HOK.out ⟨1, a, v, cut, torn⟩ hc torn; rw [ev_put] at this; exact this)
    have hxl : xs.length ≤ 8 := by rw [HX.out]; have := stepsOf_len HOK.out.fine ⟨1, a, v, 0, false⟩; rw [ev_put] at this; exact this
    have HL4 : Hid (s.flash.length = 4) := flashOk_len hok.flash
    have HL6 : Hid (s.disk.length = 6) := hok.len
    rw [HL4.out, HL6.out] at hHbx
    replace x0 := hHbx.x0
    replace x1 := hHbx.x1
    clear hok hw hne
    have hpz : ((xs.length : Int) = 0) = False := eq_false (by have h := HNE.out; rw [← HX.out] at h; have := List.length_pos_iff.2 h; omega)
    obtain ⟨q, hq⟩ : ∃ q : Nat, bs'.length % (xs.length) = q := ⟨_, rfl⟩
    have hql : q < xs.length := by have := Nat.mod_lt bs'.length (show 0 < xs.length by have h := HNE.out; rw [← HX.out] at h; exact List.length_pos_iff.2 h); omega
    have r1 : Int.tmod (bs'.length : Int) ((xs.length : Int)) = (q : Int) := by rw [Int.tmod_eq_emod_of_nonneg (by omega), ← hq]; rfl
    have r2 : (bs'.length : Int) % ((xs.length : Int)) = (q : Int) := by rw [← hq]; rfl
    clear hq
    generalize htt : ((bs'.length : Int) % 2 == 0) = tt at *
    have htt2 : (Int.tmod (bs'.length : Int) 2 == 0) = tt := by rw [Int.tmod_eq_emod_of_nonneg (by omega)]; exact htt
    obtain ⟨t, htd⟩ : ∃ t, doTo s xs (q : Int) tt = t := ⟨_, rfl⟩
    have HTR : Hid (toR s xs (q : Int) tt = (t, true)) := by rw [Hid, HTA.out _ (by omega), htd]
    have HPC : Hid (Okay t ∧ allV t = allV s) := by rw [Hid, ← htd, HX.out]; exact put_cut HOK.out (by omega) (by rw [← HX.out]; omega) tt
    clear htd HTA HNE
    go_wp2_with fail
    refine (impl_StepsTo_t HTR.out HPC.out.1.fine (by omega) A1 D1 V 4 6 c1 d1 vc _ _ hHbx.hn hHbx.hm rfl hHbx.fl hHbx.dk hX).mono ?_
    rintro e w4 ⟨A4, c4, D4, d4, rfl, hF4, hD4, _, hb⟩
    have hs4 := hb.size
    have hB4 := hB3.trans (hb.mono hB3.size)
    replace hHbx := hHbx.below hb (Nat.le_refl _)
    replace x0 := hHbx.x0
    replace x1 := hHbx.x1
    clear hb hB3
    have hHbt := Held.ok HPC.out.1 c4 d4 hF4.fl hD4
    replace hHbx := hHbx.below ((Below.refl w4.heap.size w4).alloc (Nat.le_refl _) (.cells #[.slice A4 4 c4, .slice D4 6 d4] 26)) (Nat.le_refl _)
    have hBW4 := hB4.alloc hB4.size (.cells #[.slice A4 4 c4, .slice D4 6 d4] 26)
    have hzW4 : (w4.alloc (.cells #[.slice A4 4 c4, .slice D4 6 d4] 26)).heap.size = w4.heap.size + 1 := by simp
    obtain ⟨W4, hEW4⟩ : ∃ W, w4.alloc (.cells #[.slice A4 4 c4, .slice D4 6 d4] 26) = W := ⟨_, rfl⟩
    obtain ⟨bt, hEbt⟩ : ∃ b, w4.heap.size = b := ⟨_, rfl⟩
    rw [hEW4] at hHbt hBW4 hzW4 hHbx
    rw [hEbt] at hHbt hzW4
    have t0 := hHbt.x0
    have t1 := hHbt.x1
    replace x0 := hHbx.x0
    replace x1 := hHbx.x1
    clear hB4
    clear hF4 hD4
    have hHs := hHbx
    have hHt := hHbt
    clear hHbx hHbt
    have t0 := hHt.x0
    have t1 := hHt.x1
    have u0 := hHs.x0
    have u1 := hHs.x1
    have hs2 := Lib.hid (fun X (h : Below W4.drew.heap.size W4.drew X) => hHs.drew.below h (Nat.le_refl _))
    have ht2 := Lib.hid (fun X (h : Below W4.drew.heap.size W4.drew X) => hHt.drew.below h (Nat.le_refl _))
    have hvb2 : Below W4.drew.heap.size W4.drew W4.drew := Below.refl _ _
    have hvd2 : Below w.heap.size w W4.drew := hBW4.drew
    clear hHs hHt
    go_wp2
    refine wp_region_held_drew (S := fun X => X.cell? ⟨bx, 0, none⟩ = some (.slice A1 4 c1) ∧ X.cell? ⟨bx, 1, none⟩ = some (.slice D1 6 d1) ∧ X.cell? ⟨bt, 0, none⟩ = some (.slice A4 4 c4) ∧ X.cell? ⟨bt, 1, none⟩ = some (.slice D4 6 d4)) (by kernel_rfl) ⟨(hs2.out _ hvb2).x0, (hs2.out _ hvb2).x1, (ht2.out _ hvb2).x0, (ht2.out _ hvb2).x1⟩ (fun hHeld0 => ?_)
    refine wpAnyH_take (i := 0) (v := ?va1) rfl (by kernel_rfl) (by kernel_rfl) (by kernel_rfl) (fun _ _ _ h => h) (Or.inl ⟨by kernel_rfl, ?ya1⟩) hHeld0 ?ra1
    case ya1 => (intro w' hS; (try dsimp only at hS); obtain ⟨s0, s1, s2, s3⟩ := hS; (try go_simp); (try with_reducible rfl))
    try simp only [Act.put, List.getElem_toArray, List.getElem_cons_zero, List.getElem_cons_succ, List.setIfInBounds_toArray, List.set_cons_zero, List.set_cons_succ]
    refine wpAnyH_take (i := 1) (v := ?va2) rfl (by kernel_rfl) (by kernel_rfl) (by kernel_rfl) (fun _ _ _ h => h) (Or.inl ⟨by kernel_rfl, ?ya2⟩) hHeld0 ?ra2
    case ya2 => (intro w' hS; (try dsimp only at hS); obtain ⟨s0, s1, s2, s3⟩ := hS; (try go_simp); (try with_reducible rfl))
    try simp only [Act.put, List.getElem_toArray, List.getElem_cons_zero, List.getElem_cons_succ, List.setIfInBounds_toArray, List.set_cons_zero, List.set_cons_succ]
    refine wpAnyH_take (i := 2) (v := ?va3) rfl (by kernel_rfl) (by kernel_rfl) (by kernel_rfl) (fun _ _ _ h => h) (Or.inl ⟨by kernel_rfl, ?ya3⟩) hHeld0 ?ra3
    case ya3 => (intro w' hS; (try dsimp only at hS); obtain ⟨s0, s1, s2, s3⟩ := hS; (try go_simp); (try with_reducible rfl))
    try simp only [Act.put, List.getElem_toArray, List.getElem_cons_zero, List.getElem_cons_succ, List.setIfInBounds_toArray, List.set_cons_zero, List.set_cons_succ]
    refine wpAnyH_take (i := 4) (v := ?va4) rfl (by kernel_rfl) (by kernel_rfl) (by kernel_rfl) (fun _ _ _ h => h) (Or.inl ⟨by kernel_rfl, ?ya4⟩) hHeld0 ?ra4
    case ya4 => (intro w' hS; (try dsimp only at hS); obtain ⟨s0, s1, s2, s3⟩ := hS; (try go_simp); (try with_reducible rfl))
    try simp only [Act.put, List.getElem_toArray, List.getElem_cons_zero, List.getElem_cons_succ, List.setIfInBounds_toArray, List.set_cons_zero, List.set_cons_succ]
    refine wpAnyH_ready (rs := [3]) (by kernel_rfl) (by simp) ?_
    refine AllReadyH.cons rfl (fun K hK => ?_) AllReadyH.nil
    go_simp
    refine (impl_StoreAll_ok HPC.out.1 A4 D4 c4 d4 _ (ht2.out _ hvb2).fl (ht2.out _ hvb2).dk).mono ?_
    rintro e au1 ⟨A11, c11, rfl, hL11, hc⟩
    have ab1 := hvb2.trans (hc.mono hvb2.size)
    clear hc
    go_wp2_with fail
    refine hK.out _ _ (⟨(hs2.out _ ab1).x0, (hs2.out _ ab1).x1, (ht2.out _ ab1).x0, (ht2.out _ ab1).x1⟩) (fun hHa1 => ?_)
    clear hK K
    try simp only [Act.put, List.getElem_toArray, List.getElem_cons_zero, List.getElem_cons_succ, List.setIfInBounds_toArray, List.set_cons_zero, List.set_cons_succ]
    refine wpAnyH_ready (rs := [5]) (by kernel_rfl) (by simp) ?_
    refine AllReadyH.cons rfl (fun K hK => ?_) AllReadyH.nil
    go_simp
    refine (impl_StoreAll_ok HOK.out A1 D1 c1 d1 _ (hs2.out _ ab1).fl (hs2.out _ ab1).dk).mono ?_
    rintro e au2 ⟨A12, c12, rfl, hL12, hc⟩
    have ab2 := ab1.trans (hc.mono ab1.size)
    replace hL11 := hL11.below hc (Nat.le_refl _)
    clear hc
    go_wp2_with fail
    refine hK.out _ _ (⟨(hs2.out _ ab2).x0, (hs2.out _ ab2).x1, (ht2.out _ ab2).x0, (ht2.out _ ab2).x1⟩) (fun hHa2 => ?_)
    clear hK K
    try simp only [Act.put, List.getElem_toArray, List.getElem_cons_zero, List.getElem_cons_succ, List.setIfInBounds_toArray, List.set_cons_zero, List.set_cons_succ]
    refine wpAnyH_ready (rs := [6]) (by kernel_rfl) (by simp) ?_
    refine AllReadyH.cons rfl (fun K hK => ?_) AllReadyH.nil
    go_simp
    refine (laws_lqInts_6 HPC.out.2 rfl A11 A12 c11 c12 _ hL11 hL12).mono ?_
    rintro e au3 ⟨rfl, hc⟩
    have ab3 := ab2.trans (hc.mono ab2.size)
    replace hL11 := hL11.below hc (Nat.le_refl _)
    replace hL12 := hL12.below hc (Nat.le_refl _)
    clear hc
    go_wp2_with fail
    refine hK.out _ _ (⟨(hs2.out _ ab3).x0, (hs2.out _ ab3).x1, (ht2.out _ ab3).x0, (ht2.out _ ab3).x1⟩) (fun hHa3 => ?_)
    clear hK K
    try simp only [Act.put, List.getElem_toArray, List.getElem_cons_zero, List.getElem_cons_succ, List.setIfInBounds_toArray, List.set_cons_zero, List.set_cons_succ]
    refine wpAnyH_take (i := 7) (v := ?va5) rfl (by kernel_rfl) (by kernel_rfl) (by kernel_rfl) (fun _ _ _ h => h) (Or.inl ⟨by kernel_rfl, ?ya5⟩) hHa3 ?ra5
    case ya5 => (intro w' hS; (try dsimp only at hS); obtain ⟨s0, s1, s2, s3⟩ := hS; (try go_simp); (try with_reducible rfl))
    try simp only [Act.put, List.getElem_toArray, List.getElem_cons_zero, List.getElem_cons_succ, List.setIfInBounds_toArray, List.set_cons_zero, List.set_cons_succ]
    refine wpAnyH_take (i := 8) (v := ?va6) rfl (by kernel_rfl) (by kernel_rfl) (by kernel_rfl) (fun _ _ _ h => h) (Or.inl ⟨by kernel_rfl, ?ya6⟩) hHa3 ?ra6
    case ya6 => (intro w' hS; (try dsimp only at hS); obtain ⟨s0, s1, s2, s3⟩ := hS; (try go_simp); (try with_reducible rfl))
    try simp only [Act.put, List.getElem_toArray, List.getElem_cons_zero, List.getElem_cons_succ, List.setIfInBounds_toArray, List.set_cons_zero, List.set_cons_succ]
    refine wpAnyH_take (i := 9) (v := ?va7) rfl (by kernel_rfl) (by kernel_rfl) (by kernel_rfl) (fun _ _ _ h => h) (Or.inl ⟨by kernel_rfl, ?ya7⟩) hHa3 ?ra7
    case ya7 => (intro w' hS; (try dsimp only at hS); obtain ⟨s0, s1, s2, s3⟩ := hS; (try go_simp); (try with_reducible rfl))
    try simp only [Act.put, List.getElem_toArray, List.getElem_cons_zero, List.getElem_cons_succ, List.setIfInBounds_toArray, List.set_cons_zero, List.set_cons_succ]
    refine wpAnyH_ready (rs := [10]) (by kernel_rfl) (by simp) ?_
    refine AllReadyH.cons rfl (fun K hK => ?_) AllReadyH.nil
    go_simp
    refine (impl_StoreOk_ok HPC.out.1 A4 D4 c4 d4 _ (ht2.out _ ab3).fl (ht2.out _ ab3).dk).mono ?_
    rintro e au4 ⟨rfl, hc⟩
    have ab4 := ab3.trans (hc.mono ab3.size)
    replace hL11 := hL11.below hc (Nat.le_refl _)
    replace hL12 := hL12.below hc (Nat.le_refl _)
    clear hc
    go_wp2_with fail
    refine hK.out _ _ (⟨(hs2.out _ ab4).x0, (hs2.out _ ab4).x1, (ht2.out _ ab4).x0, (ht2.out _ ab4).x1⟩) (fun hHa4 => ?_)
    clear hK K
    try simp only [Act.put, List.getElem_toArray, List.getElem_cons_zero, List.getElem_cons_succ, List.setIfInBounds_toArray, List.set_cons_zero, List.set_cons_succ]
    refine wpAnyH_take (i := 11) (v := ?va8) rfl (by kernel_rfl) (by kernel_rfl) (by kernel_rfl) (fun _ _ _ h => h) (Or.inl ⟨by kernel_rfl, ?ya8⟩) hHa4 ?ra8
    case ya8 => (intro w' hS; (try dsimp only at hS); obtain ⟨s0, s1, s2, s3⟩ := hS; (try go_simp); (try with_reducible rfl))
    try simp only [Act.put, List.getElem_toArray, List.getElem_cons_zero, List.getElem_cons_succ, List.setIfInBounds_toArray, List.set_cons_zero, List.set_cons_succ]
    refine wpAnyH_take (i := 12) (v := ?va9) rfl (by kernel_rfl) (by kernel_rfl) (by kernel_rfl) (fun _ _ _ h => h) (Or.inl ⟨by kernel_rfl, ?ya9⟩) hHa4 ?ra9
    case ya9 => (intro w' hS; (try dsimp only at hS); obtain ⟨s0, s1, s2, s3⟩ := hS; (try go_simp); (try with_reducible rfl))
    try simp only [Act.put, List.getElem_toArray, List.getElem_cons_zero, List.getElem_cons_succ, List.setIfInBounds_toArray, List.set_cons_zero, List.set_cons_succ]
    refine wpAnyH_done (by kernel_rfl) ?_ _
    have hBf := hvd2.trans (ab4.mono (by have h := hvd2.size; exact h))
    go_wp2
    go_ret
    exact ⟨rfl, hBf⟩
end Go.Proofs.Ytobjanikfbkplaa
