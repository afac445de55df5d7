/- Walks: a law over steps: FnStepsOk. -/
import Derived.Test.YtohkoogmbfaceaaY9
namespace Go.Proofs.Ytohkoogmbfaceaa
set_option linter.unusedVariables false
set_option linter.unusedSimpArgs false
open Go.RowKit Go.Maps
set_option maxHeartbeats 400000
theorem steps_do {s : St} (h : Okay s) (e : Ev) {xs : List Sp} (hx : okSteps s (stepsOf s e) = xs) : xs.length ≤ 8 ∧ ∀ cut torn, 0 ≤ cut → toR s xs cut torn = (doTo s xs cut torn, true) ∧ Okay (doTo s xs cut torn) := by
  unfold okSteps at hx
  rw [if_pos (storeOk_iff.2 h)] at hx
  subst hx
  exact ⟨stepsOf_len h.fine e, fun cut torn hc => ⟨toR_steps h e hc torn, cut_okay h e hc torn⟩⟩
set_option maxHeartbeats 8000000 in
set_option maxRecDepth 100000 in
theorem law_FnStepsOk {w : World} (A : Option Addr) (bs : List Nat) (c : Nat) (hc : Code w A bs c) (A' : Option Addr) (bs' : List Nat) (c' : Nat) (hc' : Code w A' bs' c') :
    Calls Try.prog 13 #[.slice A bs.length c, .slice A' bs'.length c'] w fun e w' => e = .returned (.bool true) ∧ Below w.heap.size w w' := by
  by_cases hlen : (1048576 : Int) < bs.length
  · go_enter Try.func13, Try.ntmps13
    go_wp2
    go_ret
    exact ⟨rfl, Below.refl _ _⟩
  by_cases hlen' : (1048576 : Int) < bs'.length
  · go_enter Try.func13, Try.ntmps13
    go_wp2
    go_ret
    exact ⟨rfl, Below.refl _ _⟩
  go_enter Try.func13, Try.ntmps13
  go_wp2_with fail
  refine (spec_DrawStepsPut A bs c _ hc).mono ?_
  rintro e w1 ⟨A1, D1, c1, d1, s, a, v, rfl, ha, hv, hsm, hO, hB1⟩
  have hs1 := hB1.size
  have HSM := Lib.hid hsm
  have HA := Lib.hid ha
  clear hsm ha
  have hHbx := Held.new w1 (c := c1) (d := d1) hO.ofl.fl hO.disk rfl rfl
  have hBW1 := hB1.alloc hB1.size (.cells #[.slice A1 s.flash.length c1, .slice D1 s.disk.length d1] 28)
  have hzW1 : (w1.alloc (.cells #[.slice A1 s.flash.length c1, .slice D1 s.disk.length d1] 28)).heap.size = w1.heap.size + 1 := by simp
  obtain ⟨W1, hEW1⟩ : ∃ W, w1.alloc (.cells #[.slice A1 s.flash.length c1, .slice D1 s.disk.length d1] 28) = W := ⟨_, rfl⟩
  obtain ⟨bx, hEbx⟩ : ∃ b, w1.heap.size = b := ⟨_, rfl⟩
  rw [hEW1] at hHbx hBW1 hzW1
  rw [hEbx] at hHbx hzW1
  have x0 := hHbx.x0
  have x1 := hHbx.x1
  clear hB1
  clear hO
  obtain ⟨xs, hxs⟩ : ∃ xs, okSteps s (wr s.flash 1 a v) = xs := ⟨_, rfl⟩
  have HXS := Lib.hid hxs
  clear hxs
  go_wp2_with fail
  refine (impl_StepsPut_x HXS.out A1 D1 _ _ c1 d1 _ hHbx.hn hHbx.hm hHbx.fl hHbx.dk).mono ?_
  rintro e w2 ⟨V, vc, rfl, hX, hXb, hxc, hb⟩
  have hs2 := hb.size
  have hB2 := hBW1.trans (hb.mono hBW1.size)
  replace hHbx := hHbx.below hb (Nat.le_refl _)
  replace x0 := hHbx.x0
  replace x1 := hHbx.x1
  clear hb hBW1
  go_wp2_with fail
  refine (spec_StepsPut_x HXS.out A1 D1 _ _ c1 d1 _ hHbx.hn hHbx.hm (small_fl HSM.out) hHbx.fl hHbx.dk).mono ?_
  rintro e w3 ⟨V3, vc3, rfl, _, _, _, hb⟩
  have hs3 := hb.size
  have hB3 := hB2.trans (hb.mono hB2.size)
  replace hHbx := hHbx.below hb (Nat.le_refl _)
  replace x0 := hHbx.x0
  replace x1 := hHbx.x1
  replace hX := hX.below hb (Nat.le_refl _)
  clear hb hB2
  have hself : ((xs.length : Int) != (xs.length : Int)) = false := by simp
  go_wp2_with fail
  refine (spec_StoreOk s A1 D1 _ _ c1 d1 _ hHbx.hn hHbx.hm (small_fl HSM.out) hHbx.fl hHbx.dk).mono ?_
  rintro e w4 ⟨rfl, hb⟩
  have hs4 := hb.size
  have hB4 := hB3.trans (hb.mono hB3.size)
  replace hHbx := hHbx.below hb (Nat.le_refl _)
  replace x0 := hHbx.x0
  replace x1 := hHbx.x1
  replace hX := hX.below hb (Nat.le_refl _)
  clear hb hB3
  by_cases hok : storeOk s = true
  · have HOK := Lib.hid (storeOk_iff.1 hok)
    rw [hok]
    clear hok
    have HL4 : Hid (s.flash.length = 4) := flashOk_len HOK.out.flash
    have HL6 : Hid (s.disk.length = 6) := HOK.out.len
    rw [HL4.out, HL6.out] at hHbx
    replace x0 := hHbx.x0
    replace x1 := hHbx.x1
    obtain ⟨q, hq⟩ : ∃ q : Nat, bs'.length % 9 = q := ⟨_, rfl⟩
    have hql : q < 9 := by omega
    have r1 : Int.tmod (bs'.length : Int) 9 = (q : Int) := by rw [Int.tmod_eq_emod_of_nonneg (by omega), ← hq]; rfl
    have r2 : (bs'.length : Int) % 9 = (q : Int) := by rw [← hq]; rfl
    clear hq
    generalize htt : ((bs'.length : Int) % 2 == 0) = tt at *
    have htt2 : (Int.tmod (bs'.length : Int) 2 == 0) = tt := by rw [Int.tmod_eq_emod_of_nonneg (by omega)]; exact htt
    have HDX := Lib.hid (steps_do HOK.out ⟨1, a, v, 0, false⟩ (xs := xs) (by rw [ev_put]; exact HXS.out))
    obtain ⟨ys, hys⟩ : ∃ ys, okSteps s (flush s a) = ys := ⟨_, rfl⟩
    have HDY := Lib.hid (steps_do HOK.out ⟨2, a, 0, 0, false⟩ (xs := ys) (by rw [ev_flush]; exact hys))
    have HYS := Lib.hid hys
    obtain ⟨zs, hzs⟩ : ∃ zs, okSteps s (fill s a) = zs := ⟨_, rfl⟩
    have HDZ := Lib.hid (steps_do HOK.out ⟨3, a, 0, 0, false⟩ (xs := zs) (by rw [ev_fill]; exact hzs))
    have HZS := Lib.hid hzs
    clear hys hzs
    have hvd : Below w.heap.size w w4.drew := hB4.drew
    have hs := Lib.hid (fun X (h : Below w4.drew.heap.size w4.drew X) => hHbx.drew.below h (Nat.le_refl _))
    have hvb : Below w4.drew.heap.size w4.drew w4.drew := Below.refl _ _
    have hX4 := hX.drew
    clear hHbx hX hB4
    go_wp2
    refine wp_region_held_drew (S := fun X => X.cell? ⟨bx, 0, none⟩ = some (.slice A1 4 c1) ∧ X.cell? ⟨bx, 1, none⟩ = some (.slice D1 6 d1)) (by kernel_rfl) ⟨(hs.out _ hvb).x0, (hs.out _ hvb).x1⟩ (fun hHeld0 => ?_)
    refine wpAnyH_take (i := 0) (v := ?va1) rfl (by kernel_rfl) (by kernel_rfl) (by kernel_rfl) (fun _ _ _ h => h) (Or.inl ⟨by kernel_rfl, ?ya1⟩) hHeld0 ?ra1
    case ya1 => (intro w' hS; (try dsimp only at hS); obtain ⟨s0, s1⟩ := hS; (try go_simp); (try with_reducible rfl))
    try simp only [Act.put, List.getElem_toArray, List.getElem_cons_zero, List.getElem_cons_succ, List.setIfInBounds_toArray, List.set_cons_zero, List.set_cons_succ]
    refine wpAnyH_take (i := 1) (v := ?va2) rfl (by kernel_rfl) (by kernel_rfl) (by kernel_rfl) (fun _ _ _ h => h) (Or.inl ⟨by kernel_rfl, ?ya2⟩) hHeld0 ?ra2
    case ya2 => (intro w' hS; (try dsimp only at hS); obtain ⟨s0, s1⟩ := hS; (try go_simp); (try with_reducible rfl))
    try simp only [Act.put, List.getElem_toArray, List.getElem_cons_zero, List.getElem_cons_succ, List.setIfInBounds_toArray, List.set_cons_zero, List.set_cons_succ]
    refine wpAnyH_take (i := 2) (v := ?va3) rfl (by kernel_rfl) (by kernel_rfl) (by kernel_rfl) (fun _ _ _ h => h) (Or.inl ⟨by kernel_rfl, ?ya3⟩) hHeld0 ?ra3
    case ya3 => (intro w' hS; (try dsimp only at hS); obtain ⟨s0, s1⟩ := hS; (try go_simp); (try with_reducible rfl))
    try simp only [Act.put, List.getElem_toArray, List.getElem_cons_zero, List.getElem_cons_succ, List.setIfInBounds_toArray, List.set_cons_zero, List.set_cons_succ]
    refine wpAnyH_take (i := 4) (v := ?va4) rfl (by kernel_rfl) (by kernel_rfl) (by kernel_rfl) (fun _ _ _ h => h) (Or.inl ⟨by kernel_rfl, ?ya4⟩) hHeld0 ?ra4
    case ya4 => (intro w' hS; (try dsimp only at hS); obtain ⟨s0, s1⟩ := hS; (try go_simp); (try with_reducible rfl))
    try simp only [Act.put, List.getElem_toArray, List.getElem_cons_zero, List.getElem_cons_succ, List.setIfInBounds_toArray, List.set_cons_zero, List.set_cons_succ]
    refine wpAnyH_take (i := 5) (v := ?va5) rfl (by kernel_rfl) (by kernel_rfl) (by kernel_rfl) (fun _ _ _ h => h) (Or.inl ⟨by kernel_rfl, ?ya5⟩) hHeld0 ?ra5
    case ya5 => (intro w' hS; (try dsimp only at hS); obtain ⟨s0, s1⟩ := hS; (try go_simp); (try with_reducible rfl))
    try simp only [Act.put, List.getElem_toArray, List.getElem_cons_zero, List.getElem_cons_succ, List.setIfInBounds_toArray, List.set_cons_zero, List.set_cons_succ]
    refine wpAnyH_ready (rs := [3]) (by kernel_rfl) (by simp) ?_
    refine AllReadyH.cons rfl (fun K hK => ?_) AllReadyH.nil
    go_simp
    refine (impl_StepsFlush_x HYS.out A1 D1 4 6 c1 d1 _ (hs.out _ hvb).hn (hs.out _ hvb).hm (hs.out _ hvb).fl (hs.out _ hvb).dk).mono ?_
    rintro e au1 ⟨V1, vc1, rfl, hY, _, _, hc⟩
    have ab1 := hvb.trans (hc.mono hvb.size)
    replace hX4 := hX4.below hc (Nat.le_refl _)
    clear hc
    go_wp2_with fail
    refine hK.out _ _ (⟨(hs.out _ ab1).x0, (hs.out _ ab1).x1⟩) (fun hHa1 => ?_)
    clear hK K
    try simp only [Act.put, List.getElem_toArray, List.getElem_cons_zero, List.getElem_cons_succ, List.setIfInBounds_toArray, List.set_cons_zero, List.set_cons_succ]
    refine wpAnyH_ready (rs := [6]) (by kernel_rfl) (by simp) ?_
    refine AllReadyH.cons rfl (fun K hK => ?_) AllReadyH.nil
    go_simp
    refine (impl_StepsFill_x HZS.out A1 D1 4 6 c1 d1 _ (hs.out _ ab1).hn (hs.out _ ab1).hm (hs.out _ ab1).fl (hs.out _ ab1).dk).mono ?_
    rintro e au2 ⟨V2, vc2, rfl, hZ, _, _, hc⟩
    have ab2 := ab1.trans (hc.mono ab1.size)
    replace hX4 := hX4.below hc (Nat.le_refl _)
    replace hY := hY.below hc (Nat.le_refl _)
    clear hc
    go_wp2_with fail
    refine hK.out _ _ (⟨(hs.out _ ab2).x0, (hs.out _ ab2).x1⟩) (fun hHa2 => ?_)
    clear hK K
    try simp only [Act.put, List.getElem_toArray, List.getElem_cons_zero, List.getElem_cons_succ, List.setIfInBounds_toArray, List.set_cons_zero, List.set_cons_succ]
    refine wpAnyH_ready (rs := [7]) (by kernel_rfl) (by simp) ?_
    refine AllReadyH.cons rfl (fun K hK => ?_) AllReadyH.nil
    go_simp
    have hq7 := Row.new au2 #[.slice V xs.length vc, .slice V1 ys.length vc1, .slice V2 zs.length vc2] 46
    have hb7 := ab2.alloc ab2.size (.cells #[.slice V xs.length vc, .slice V1 ys.length vc1, .slice V2 zs.length vc2] 46)
    have hX7 := hX4.alloc (.cells #[.slice V xs.length vc, .slice V1 ys.length vc1, .slice V2 zs.length vc2] 46)
    have hY7 := hY.alloc (.cells #[.slice V xs.length vc, .slice V1 ys.length vc1, .slice V2 zs.length vc2] 46)
    have hZ7 := hZ.alloc (.cells #[.slice V xs.length vc, .slice V1 ys.length vc1, .slice V2 zs.length vc2] 46)
    refine hK.out _ _ (⟨(hs.out _ hb7).x0, (hs.out _ hb7).x1⟩) (fun hHa3 => ?_)
    clear hK K
    try simp only [Act.put, List.getElem_toArray, List.getElem_cons_zero, List.getElem_cons_succ, List.setIfInBounds_toArray, List.set_cons_zero, List.set_cons_succ]
    refine wpAnyH_take (i := 8) (v := ?va6) rfl (by kernel_rfl) (by kernel_rfl) (by kernel_rfl) (fun _ _ _ h => h) (Or.inl ⟨by kernel_rfl, ?ya6⟩) hHa3 ?ra6
    case ya6 => (intro w' hS; (try dsimp only at hS); obtain ⟨s0, s1⟩ := hS; (try go_simp); (try with_reducible rfl))
    try simp only [Act.put, List.getElem_toArray, List.getElem_cons_zero, List.getElem_cons_succ, List.setIfInBounds_toArray, List.set_cons_zero, List.set_cons_succ]
    refine wpAnyH_done (by kernel_rfl) ?_ _
    have hHs := hs.out _ hb7
    have hB7 := hvd.trans (hb7.mono (by have h := hvd.size; exact h))
    obtain ⟨W7, hW7⟩ : ∃ W, au2.alloc (.cells #[.slice V xs.length vc, .slice V1 ys.length vc1, .slice V2 zs.length vc2] 46) = W := ⟨_, rfl⟩
    obtain ⟨bl, hbl⟩ : ∃ b, au2.heap.size = b := ⟨_, rfl⟩
    have hzl : bl < W7.heap.size := by rw [← hW7, ← hbl]; simp
    rw [hW7] at hHs hB7 hX7 hY7 hZ7 hq7
    rw [hbl] at hq7
    (try rw [hW7])
    (try simp only [hbl])
    obtain ⟨k0, _⟩ := hq7.at0 (j := 0) rfl
    obtain ⟨k1, _⟩ := hq7.at0 (j := 1) rfl
    obtain ⟨k2, _⟩ := hq7.at0 (j := 2) rfl
    clear hW7 hb7 hq7 hs hvd hvb hX4 hY hZ
    go_wp2
    go_loopw [10] (fun i wr => ∃ j : Nat, j ≤ 3 ∧ i = .int .i64 j ∧ Below W7.heap.size W7 wr) (fun i _ => 3 - (intOf i).toNat)
    case atStart => exact ⟨0, by omega, rfl, Below.refl _ _⟩
    case round =>
      obtain ⟨j, hj, rfl, hBr⟩ := hrel
      by_cases hlt : j < 3
      · have hj1 : (j : Int) < 3 := by omega
        have ew : IntKind.i64.wrap ((j : Int) + 1) = (j : Int) + 1 := IntWalk.i64_in _ (by omega)
        obtain ⟨Vj, ls, cj, kc, hL, hP⟩ : ∃ Vj ls cj, wr.cell? ⟨bl, j, none⟩ = some (.slice Vj (List.length ls) cj) ∧ Row wr Vj (sps ls) ∧ Hid (ls.length ≤ 8 ∧ ∀ cut torn, 0 ≤ cut → toR s ls cut torn = (doTo s ls cut torn, true) ∧ Okay (doTo s ls cut torn)) := by
          rcases (by omega : j = 0 ∨ j = 1 ∨ j = 2) with rfl | rfl | rfl
          · exact ⟨V, xs, vc, (hBr.cell (p := ⟨bl, 0, none⟩) hzl).trans k0, hX7.below hBr (Nat.le_refl _), HDX⟩
          · exact ⟨V1, ys, vc1, (hBr.cell (p := ⟨bl, 1, none⟩) hzl).trans k1, hY7.below hBr (Nat.le_refl _), HDY⟩
          · exact ⟨V2, zs, vc2, (hBr.cell (p := ⟨bl, 2, none⟩) hzl).trans k2, hZ7.below hBr (Nat.le_refl _), HDZ⟩
        have hll := hP.out.1
        obtain ⟨t, htd⟩ : ∃ t, doTo s ls (q : Int) tt = t := ⟨_, rfl⟩
        have hpq := hP.out.2 (q : Int) tt (by omega)
        rw [htd] at hpq
        have HTR := Lib.hid hpq.1
        have HOT := Lib.hid hpq.2
        clear htd hpq hP
        have hHw := hHs.below hBr (Nat.le_refl _)
        have hvd : Below W7.heap.size W7 wr.drew := hBr.drew
        have hs := Lib.hid (fun X (h : Below wr.drew.heap.size wr.drew X) => hHw.drew.below h (Nat.le_refl _))
        have hvb : Below wr.drew.heap.size wr.drew wr.drew := Below.refl _ _
        have hzr : bl < wr.drew.heap.size := by have := hBr.size; show bl < wr.heap.size; omega
        have hkc := Lib.hid (fun X (h : Below wr.drew.heap.size wr.drew X) => (h.cell (p := ⟨bl, j, none⟩) hzr).trans (show wr.drew.cell? _ = _ from kc))
        have hXx := Lib.hid (fun X (h : Below wr.drew.heap.size wr.drew X) => hL.drew.below h (Nat.le_refl _))
        clear hHw hL kc
        go_wp2
        refine wp_region_held_drew (S := fun X => X.cell? ⟨bx, 0, none⟩ = some (.slice A1 4 c1) ∧ X.cell? ⟨bx, 1, none⟩ = some (.slice D1 6 d1) ∧ X.cell? ⟨bl, j, none⟩ = some (.slice Vj ls.length cj)) (by kernel_rfl) ⟨(hs.out _ hvb).x0, (hs.out _ hvb).x1, hkc.out _ hvb⟩ (fun hHeld0 => ?_)
        refine wpAnyH_take (i := 0) (v := ?vfs1) rfl (by kernel_rfl) (by kernel_rfl) (by kernel_rfl) (fun _ _ _ h => h) (Or.inl ⟨by kernel_rfl, ?yfs1⟩) hHeld0 ?rfs1
        case yfs1 => (intro w' hS; (try dsimp only at hS); obtain ⟨s0, s1, s2⟩ := hS; (try go_simp); (try with_reducible rfl))
        try simp only [Act.put, List.getElem_toArray, List.getElem_cons_zero, List.getElem_cons_succ, List.setIfInBounds_toArray, List.set_cons_zero, List.set_cons_succ]
        refine wpAnyH_take (i := 1) (v := ?vfs2) rfl (by kernel_rfl) (by kernel_rfl) (by kernel_rfl) (fun _ _ _ h => h) (Or.inl ⟨by kernel_rfl, ?yfs2⟩) hHeld0 ?rfs2
        case yfs2 => (intro w' hS; (try dsimp only at hS); obtain ⟨s0, s1, s2⟩ := hS; (try go_simp); (try with_reducible rfl))
        try simp only [Act.put, List.getElem_toArray, List.getElem_cons_zero, List.getElem_cons_succ, List.setIfInBounds_toArray, List.set_cons_zero, List.set_cons_succ]
        refine wpAnyH_take (i := 2) (v := ?vfs3) rfl (by kernel_rfl) (by kernel_rfl) (by kernel_rfl) (fun _ _ _ h => h) (Or.inl ⟨by kernel_rfl, ?yfs3⟩) hHeld0 ?rfs3
        case yfs3 => (intro w' hS; (try dsimp only at hS); obtain ⟨s0, s1, s2⟩ := hS; (try go_simp); (try with_reducible rfl))
        try simp only [Act.put, List.getElem_toArray, List.getElem_cons_zero, List.getElem_cons_succ, List.setIfInBounds_toArray, List.set_cons_zero, List.set_cons_succ]
        refine wpAnyH_take (i := 3) (v := ?vfs4) rfl (by kernel_rfl) (by kernel_rfl) (by kernel_rfl) (fun _ _ _ h => h) (Or.inl ⟨by kernel_rfl, ?yfs4⟩) hHeld0 ?rfs4
        case yfs4 => (intro w' hS; (try dsimp only at hS); obtain ⟨s0, s1, s2⟩ := hS; (try go_simp); (try with_reducible rfl))
        try simp only [Act.put, List.getElem_toArray, List.getElem_cons_zero, List.getElem_cons_succ, List.setIfInBounds_toArray, List.set_cons_zero, List.set_cons_succ]
        refine wpAnyH_take (i := 4) (v := ?vfs5) rfl (by kernel_rfl) (by kernel_rfl) (by kernel_rfl) (fun _ _ _ h => h) (Or.inl ⟨by kernel_rfl, ?yfs5⟩) hHeld0 ?rfs5
        case yfs5 => (intro w' hS; (try dsimp only at hS); obtain ⟨s0, s1, s2⟩ := hS; (try go_simp); (try with_reducible rfl))
        try simp only [Act.put, List.getElem_toArray, List.getElem_cons_zero, List.getElem_cons_succ, List.setIfInBounds_toArray, List.set_cons_zero, List.set_cons_succ]
        refine wpAnyH_take (i := 5) (v := ?vfs6) rfl (by kernel_rfl) (by kernel_rfl) (by kernel_rfl) (fun _ _ _ h => h) (Or.inl ⟨by kernel_rfl, ?yfs6⟩) hHeld0 ?rfs6
        case yfs6 => (intro w' hS; (try dsimp only at hS); obtain ⟨s0, s1, s2⟩ := hS; (try go_simp); (try with_reducible rfl))
        try simp only [Act.put, List.getElem_toArray, List.getElem_cons_zero, List.getElem_cons_succ, List.setIfInBounds_toArray, List.set_cons_zero, List.set_cons_succ]
        refine wpAnyH_take (i := 6) (v := ?vfs7) rfl (by kernel_rfl) (by kernel_rfl) (by kernel_rfl) (fun _ _ _ h => h) (Or.inl ⟨by kernel_rfl, ?yfs7⟩) hHeld0 ?rfs7
        case yfs7 => (intro w' hS; (try dsimp only at hS); obtain ⟨s0, s1, s2⟩ := hS; (try go_simp); (try with_reducible rfl))
        try simp only [Act.put, List.getElem_toArray, List.getElem_cons_zero, List.getElem_cons_succ, List.setIfInBounds_toArray, List.set_cons_zero, List.set_cons_succ]
        refine wpAnyH_take (i := 7) (v := ?vfs8) rfl (by kernel_rfl) (by kernel_rfl) (by kernel_rfl) (fun _ _ _ h => h) (Or.inl ⟨by kernel_rfl, ?yfs8⟩) hHeld0 ?rfs8
        case yfs8 => (intro w' hS; (try dsimp only at hS); obtain ⟨s0, s1, s2⟩ := hS; (try go_simp); (try with_reducible rfl))
        try simp only [Act.put, List.getElem_toArray, List.getElem_cons_zero, List.getElem_cons_succ, List.setIfInBounds_toArray, List.set_cons_zero, List.set_cons_succ]
        refine wpAnyH_take (i := 8) (v := ?vfs9) rfl (by kernel_rfl) (by kernel_rfl) (by kernel_rfl) (fun _ _ _ h => h) (Or.inl ⟨by kernel_rfl, ?yfs9⟩) hHeld0 ?rfs9
        case yfs9 => (intro w' hS; (try dsimp only at hS); obtain ⟨s0, s1, s2⟩ := hS; (try go_simp); (try with_reducible rfl))
        try simp only [Act.put, List.getElem_toArray, List.getElem_cons_zero, List.getElem_cons_succ, List.setIfInBounds_toArray, List.set_cons_zero, List.set_cons_succ]
        refine wpAnyH_take (i := 9) (v := ?vfs10) rfl (by kernel_rfl) (by kernel_rfl) (by kernel_rfl) (fun _ _ _ h => h) (Or.inl ⟨by kernel_rfl, ?yfs10⟩) hHeld0 ?rfs10
        case yfs10 => (intro w' hS; (try dsimp only at hS); obtain ⟨s0, s1, s2⟩ := hS; (try go_simp); (try with_reducible rfl))
        try simp only [Act.put, List.getElem_toArray, List.getElem_cons_zero, List.getElem_cons_succ, List.setIfInBounds_toArray, List.set_cons_zero, List.set_cons_succ]
        refine wpAnyH_take (i := 10) (v := ?vfs11) rfl (by kernel_rfl) (by kernel_rfl) (by kernel_rfl) (fun _ _ _ h => h) (Or.inl ⟨by kernel_rfl, ?yfs11⟩) hHeld0 ?rfs11
        case yfs11 => (intro w' hS; (try dsimp only at hS); obtain ⟨s0, s1, s2⟩ := hS; (try go_simp); (try with_reducible rfl))
        try simp only [Act.put, List.getElem_toArray, List.getElem_cons_zero, List.getElem_cons_succ, List.setIfInBounds_toArray, List.set_cons_zero, List.set_cons_succ]
        refine wpAnyH_take (i := 11) (v := ?vfs12) rfl (by kernel_rfl) (by kernel_rfl) (by kernel_rfl) (fun _ _ _ h => h) (Or.inl ⟨by kernel_rfl, ?yfs12⟩) hHeld0 ?rfs12
        case yfs12 => (intro w' hS; (try dsimp only at hS); obtain ⟨s0, s1, s2⟩ := hS; (try go_simp); (try with_reducible rfl))
        try simp only [Act.put, List.getElem_toArray, List.getElem_cons_zero, List.getElem_cons_succ, List.setIfInBounds_toArray, List.set_cons_zero, List.set_cons_succ]
        refine wpAnyH_ready (rs := [12, 16]) (by kernel_rfl) (by simp) ?_
        refine AllReadyH.cons rfl (fun K hK => ?_) (AllReadyH.cons rfl (fun K hK => ?_) AllReadyH.nil)
        · go_simp
          refine (impl_StepsTo_t HTR.out HOT.out.fine (by omega) A1 D1 Vj 4 6 c1 d1 cj _ _ (hs.out _ hvb).hn (hs.out _ hvb).hm rfl (hs.out _ hvb).fl (hs.out _ hvb).dk (hXx.out _ hvb)).mono ?_
          rintro e w4 ⟨A4, c4, D4, d4, rfl, hF4, hD4, hl4, hc⟩
          have hb4 := hvb.trans (hc.mono hvb.size)
          have hz4 := hc.size
          go_wp2_with fail
          refine hK.out _ _ (⟨(hs.out _ hb4).x0, (hs.out _ hb4).x1, hkc.out _ hb4⟩) (fun hHfs1 => ?_)
          clear hK K
          try simp only [Act.put, List.getElem_toArray, List.getElem_cons_zero, List.getElem_cons_succ, List.setIfInBounds_toArray, List.set_cons_zero, List.set_cons_succ]
          refine wpAnyH_take (i := 13) (v := ?vfs13) rfl (by kernel_rfl) (by kernel_rfl) (by kernel_rfl) (fun _ _ _ h => h) (Or.inl ⟨by kernel_rfl, ?yfs13⟩) hHfs1 ?rfs13
          case yfs13 => (intro w' hS; (try dsimp only at hS); obtain ⟨s0, s1, s2⟩ := hS; (try go_simp); (try with_reducible rfl))
          try simp only [Act.put, List.getElem_toArray, List.getElem_cons_zero, List.getElem_cons_succ, List.setIfInBounds_toArray, List.set_cons_zero, List.set_cons_succ]
          refine wpAnyH_take (i := 14) (v := ?vfs14) rfl (by kernel_rfl) (by kernel_rfl) (by kernel_rfl) (fun _ _ _ h => h) (Or.inl ⟨by kernel_rfl, ?yfs14⟩) hHfs1 ?rfs14
          case yfs14 => (intro w' hS; (try dsimp only at hS); obtain ⟨s0, s1, s2⟩ := hS; (try go_simp); (try with_reducible rfl))
          try simp only [Act.put, List.getElem_toArray, List.getElem_cons_zero, List.getElem_cons_succ, List.setIfInBounds_toArray, List.set_cons_zero, List.set_cons_succ]
          refine wpAnyH_take (i := 15) (v := ?vfs15) rfl (by kernel_rfl) (by kernel_rfl) (by kernel_rfl) (fun _ _ _ h => h) (Or.inl ⟨by kernel_rfl, ?yfs15⟩) hHfs1 ?rfs15
          case yfs15 => (intro w' hS; (try dsimp only at hS); obtain ⟨s0, s1, s2⟩ := hS; (try go_simp); (try with_reducible rfl))
          try simp only [Act.put, List.getElem_toArray, List.getElem_cons_zero, List.getElem_cons_succ, List.setIfInBounds_toArray, List.set_cons_zero, List.set_cons_succ]
          refine wpAnyH_ready (rs := [16]) (by kernel_rfl) (by simp) ?_
          refine AllReadyH.cons rfl (fun K hK => ?_) AllReadyH.nil
          go_simp
          obtain ⟨bz, hbz⟩ : ∃ b, w4.heap.size = b := ⟨_, rfl⟩
          have hbz' : w4.heap.size = bz := hbz
          have hq := Row.new w4 #[.slice none 0 0, .slice none 0 0] 28
          have hb3 := hb4.alloc hb4.size (.cells #[.slice none 0 0, .slice none 0 0] 28)
          rw [hbz'] at hq
          (try simp only [hbz])
          obtain ⟨z0, z2⟩ := hq.at0 (j := 0) rfl
          obtain ⟨z1, z3⟩ := hq.at0 (j := 1) rfl
          have hzs : (w4.alloc (.cells #[.slice none 0 0, .slice none 0 0] 28)).heap.size = bz + 1 := by rw [← hbz']; simp
          refine hK.out _ _ (⟨(hs.out _ hb3).x0, (hs.out _ hb3).x1, hkc.out _ hb3⟩) (fun hHfs2 => ?_)
          clear hK K
          try simp only [Act.put, List.getElem_toArray, List.getElem_cons_zero, List.getElem_cons_succ, List.setIfInBounds_toArray, List.set_cons_zero, List.set_cons_succ]
          refine wpAnyH_ready (rs := [17]) (by kernel_rfl) (by simp) ?_
          refine AllReadyH.cons rfl (fun K hK => ?_) AllReadyH.nil
          go_simp
          have hb8 := hb4.alloc hb4.size (.cells #[.slice A4 4 c4, .slice D4 6 d4] 28)
          have hq8 := Row.new w4 #[.slice A4 4 c4, .slice D4 6 d4] 28
          rw [hbz] at hq8
          obtain ⟨r0, _⟩ := hq8.at0 (j := 0) rfl
          obtain ⟨r1, _⟩ := hq8.at0 (j := 1) rfl
          have hF6 := hF4.fl.alloc (.cells #[.slice A4 4 c4, .slice D4 6 d4] 28)
          have hD6 := hD4.alloc (.cells #[.slice A4 4 c4, .slice D4 6 d4] 28)
          refine hK.out _ _ (⟨(hs.out _ hb8).x0, (hs.out _ hb8).x1, hkc.out _ hb8⟩) (fun hHfs3 => ?_)
          clear hK K
          try simp only [Act.put, List.getElem_toArray, List.getElem_cons_zero, List.getElem_cons_succ, List.setIfInBounds_toArray, List.set_cons_zero, List.set_cons_succ]
          refine wpAnyH_take (i := 18) (v := ?vfs16) rfl (by kernel_rfl) (by kernel_rfl) (by kernel_rfl) (fun _ _ _ h => h) (Or.inl ⟨by kernel_rfl, ?yfs16⟩) hHfs3 ?rfs16
          case yfs16 => (intro w' hS; (try dsimp only at hS); obtain ⟨s0, s1, s2⟩ := hS; (try go_simp); (try with_reducible rfl))
          try simp only [Act.put, List.getElem_toArray, List.getElem_cons_zero, List.getElem_cons_succ, List.setIfInBounds_toArray, List.set_cons_zero, List.set_cons_succ]
          refine wpAnyH_done (by kernel_rfl) ?_ _
          have hHs := hs.out _ hb8
          have hHt : Held (w4.alloc (.cells #[.slice A4 4 c4, .slice D4 6 d4] 28)) bz A4 D4 4 c4 6 d4 t := ⟨hF6, hD6, r0, r1, (flashOk_len HOT.out.flash).symm, HOT.out.len.symm⟩
          have hB5 := hvd.trans (hb8.mono (by have h := hvd.size; exact h))
          obtain ⟨W5, hW5⟩ : ∃ W, (w4.alloc (.cells #[.slice A4 4 c4, .slice D4 6 d4] 28)) = W := ⟨_, rfl⟩
          rw [hW5] at hHs hHt hB5
          (try rw [hW5])
          clear hW5 hb8 hb4 r0 r1 hF6 hD6 hF4 hD4 hl4
          clear hs hkc hXx hvd hvb
          have x0 := hHs.x0
          have t0 := hHt.x0
          have t1 := hHt.x1
          go_wp2_with fail
          refine (impl_StoreOk_ok HOT.out A4 D4 c4 d4 _ hHt.fl hHt.dk).mono ?_
          rintro e w8 ⟨rfl, hb⟩
          have hBn := hB5.trans (hb.mono hB5.size)
          go_wp2
          go_roundw
          (case rel => exact ⟨j + 1, by omega, by go_num, hBn⟩)
          (case measure => simp [intOf]; omega)
        · go_simp
          obtain ⟨bz, hbz⟩ : ∃ b, wr.heap.size = b := ⟨_, rfl⟩
          have hbz' : wr.drew.heap.size = bz := hbz
          have hq := Row.new wr.drew #[.slice none 0 0, .slice none 0 0] 28
          have hb3 := hvb.alloc hvb.size (.cells #[.slice none 0 0, .slice none 0 0] 28)
          rw [hbz'] at hq
          (try simp only [hbz])
          obtain ⟨z0, z2⟩ := hq.at0 (j := 0) rfl
          obtain ⟨z1, z3⟩ := hq.at0 (j := 1) rfl
          have hzs : (wr.drew.alloc (.cells #[.slice none 0 0, .slice none 0 0] 28)).heap.size = bz + 1 := by rw [← hbz']; simp
          have hzs2 : (wr.alloc (.cells #[.slice none 0 0, .slice none 0 0] 28)).drew.heap.size = bz + 1 := hzs
          refine hK.out _ _ (⟨(hs.out _ hb3).x0, (hs.out _ hb3).x1, hkc.out _ hb3⟩) (fun hHfs4 => ?_)
          clear hK K
          try simp only [Act.put, List.getElem_toArray, List.getElem_cons_zero, List.getElem_cons_succ, List.setIfInBounds_toArray, List.set_cons_zero, List.set_cons_succ]
          refine wpAnyH_ready (rs := [12]) (by kernel_rfl) (by simp) ?_
          refine AllReadyH.cons rfl (fun K hK => ?_) AllReadyH.nil
          go_simp
          refine (impl_StepsTo_t HTR.out HOT.out.fine (by omega) A1 D1 Vj 4 6 c1 d1 cj _ _ (hs.out _ hb3).hn (hs.out _ hb3).hm rfl (hs.out _ hb3).fl (hs.out _ hb3).dk (hXx.out _ hb3)).mono ?_
          rintro e w4 ⟨A4, c4, D4, d4, rfl, hF4, hD4, hl4, hc⟩
          have hb4 := hb3.trans (hc.mono hb3.size)
          have hz4 := hc.size
          have y0 := (hc.cell (p := ⟨bz, 0, none⟩) (by show bz < _; omega)).trans z0
          have y1 := (hc.cell (p := ⟨bz, 1, none⟩) (by show bz < _; omega)).trans z1
          have y2 := (hc.frozen (p := ⟨bz, 0, none⟩) (by show bz < _; omega)).trans z2
          have y3 := (hc.frozen (p := ⟨bz, 1, none⟩) (by show bz < _; omega)).trans z3
          go_wp2_with fail
          refine hK.out _ _ (⟨(hs.out _ hb4).x0, (hs.out _ hb4).x1, hkc.out _ hb4⟩) (fun hHfs5 => ?_)
          clear hK K
          try simp only [Act.put, List.getElem_toArray, List.getElem_cons_zero, List.getElem_cons_succ, List.setIfInBounds_toArray, List.set_cons_zero, List.set_cons_succ]
          refine wpAnyH_take (i := 13) (v := ?vfs17) rfl (by kernel_rfl) (by kernel_rfl) (by kernel_rfl) (fun _ _ _ h => h) (Or.inl ⟨by kernel_rfl, ?yfs17⟩) hHfs5 ?rfs17
          case yfs17 => (intro w' hS; (try dsimp only at hS); obtain ⟨s0, s1, s2⟩ := hS; (try go_simp); (try with_reducible rfl))
          try simp only [Act.put, List.getElem_toArray, List.getElem_cons_zero, List.getElem_cons_succ, List.setIfInBounds_toArray, List.set_cons_zero, List.set_cons_succ]
          refine wpAnyH_take (i := 14) (v := ?vfs18) rfl (by kernel_rfl) (by kernel_rfl) (by kernel_rfl) (fun _ _ _ h => h) (Or.inl ⟨by kernel_rfl, ?yfs18⟩) hHfs5 ?rfs18
          case yfs18 => (intro w' hS; (try dsimp only at hS); obtain ⟨s0, s1, s2⟩ := hS; (try go_simp); (try with_reducible rfl))
          try simp only [Act.put, List.getElem_toArray, List.getElem_cons_zero, List.getElem_cons_succ, List.setIfInBounds_toArray, List.set_cons_zero, List.set_cons_succ]
          refine wpAnyH_take (i := 15) (v := ?vfs19) rfl (by kernel_rfl) (by kernel_rfl) (by kernel_rfl) (fun _ _ _ h => h) (Or.inl ⟨by kernel_rfl, ?yfs19⟩) hHfs5 ?rfs19
          case yfs19 => (intro w' hS; (try dsimp only at hS); obtain ⟨s0, s1, s2⟩ := hS; (try go_simp); (try with_reducible rfl))
          try simp only [Act.put, List.getElem_toArray, List.getElem_cons_zero, List.getElem_cons_succ, List.setIfInBounds_toArray, List.set_cons_zero, List.set_cons_succ]
          refine wpAnyH_ready (rs := [17]) (by kernel_rfl) (by simp) ?_
          refine AllReadyH.cons rfl (fun K hK => ?_) AllReadyH.nil
          go_simp
          have hWs := laid_cells y0 y1 (.slice A4 4 c4) (.slice D4 6 d4)
          have hsz0 := hb4.size
          have hb8 := hb4.trans (hWs.agr.below (B := wr.drew.heap.size) hsz0 (fun i hi => by show wr.heap.size ≤ i; omega))
          have r0 := hWs.new_ 0 _ rfl
          have r1 := hWs.new_ 1 _ rfl
          rw [Nat.add_zero] at r0
          have hF6 := (hF4.keep (w' := ((w4.setCell ⟨bz, 0, none⟩ (.slice A4 4 c4)).setCell ⟨bz, 1, none⟩ (.slice D4 6 d4))) fun b hb hl => hWs.block b (by omega)).fl
          have hD6 := hD4.keep (w' := ((w4.setCell ⟨bz, 0, none⟩ (.slice A4 4 c4)).setCell ⟨bz, 1, none⟩ (.slice D4 6 d4))) fun b hb hl => hWs.block b (by have := hl4 b hb; omega)
          refine hK.out _ _ (⟨(hs.out _ hb8).x0, (hs.out _ hb8).x1, hkc.out _ hb8⟩) (fun hHfs6 => ?_)
          clear hK K
          try simp only [Act.put, List.getElem_toArray, List.getElem_cons_zero, List.getElem_cons_succ, List.setIfInBounds_toArray, List.set_cons_zero, List.set_cons_succ]
          refine wpAnyH_take (i := 18) (v := ?vfs20) rfl (by kernel_rfl) (by kernel_rfl) (by kernel_rfl) (fun _ _ _ h => h) (Or.inl ⟨by kernel_rfl, ?yfs20⟩) hHfs6 ?rfs20
          case yfs20 => (intro w' hS; (try dsimp only at hS); obtain ⟨s0, s1, s2⟩ := hS; (try go_simp); (try with_reducible rfl))
          try simp only [Act.put, List.getElem_toArray, List.getElem_cons_zero, List.getElem_cons_succ, List.setIfInBounds_toArray, List.set_cons_zero, List.set_cons_succ]
          refine wpAnyH_done (by kernel_rfl) ?_ _
          have hHs := hs.out _ hb8
          have hHt : Held ((w4.setCell ⟨bz, 0, none⟩ (.slice A4 4 c4)).setCell ⟨bz, 1, none⟩ (.slice D4 6 d4)) bz A4 D4 4 c4 6 d4 t := ⟨hF6, hD6, r0, r1, (flashOk_len HOT.out.flash).symm, HOT.out.len.symm⟩
          have hB5 := hvd.trans (hb8.mono (by have h := hvd.size; exact h))
          obtain ⟨W5, hW5⟩ : ∃ W, ((w4.setCell ⟨bz, 0, none⟩ (.slice A4 4 c4)).setCell ⟨bz, 1, none⟩ (.slice D4 6 d4)) = W := ⟨_, rfl⟩
          rw [hW5] at hHs hHt hB5
          (try rw [hW5])
          clear hW5 hb8 hb4 r0 r1 hF6 hD6 hF4 hD4 hl4
          clear hs hkc hXx hvd hvb
          have x0 := hHs.x0
          have t0 := hHt.x0
          have t1 := hHt.x1
          go_wp2_with fail
          refine (impl_StoreOk_ok HOT.out A4 D4 c4 d4 _ hHt.fl hHt.dk).mono ?_
          rintro e w8 ⟨rfl, hb⟩
          have hBn := hB5.trans (hb.mono hB5.size)
          go_wp2
          go_roundw
          (case rel => exact ⟨j + 1, by omega, by go_num, hBn⟩)
          (case measure => simp [intOf]; omega)
      · have hj1 : ¬ (j : Int) < 3 := by omega
        have hBf := hB7.trans (hBr.mono hB7.size)
        go_wp2
        go_ret
        exact ⟨rfl, hBf⟩
  · rw [show storeOk s = false from by simpa using hok]
    clear hok
    go_wp2_with fail
    refine (spec_StepsPut_x HXS.out A1 D1 _ _ c1 d1 _ hHbx.hn hHbx.hm (small_fl HSM.out) hHbx.fl hHbx.dk).mono ?_
    rintro e w5 ⟨V5, vc5, rfl, _, _, _, hb⟩
    have hs5 := hb.size
    have hB5 := hB4.trans (hb.mono hB4.size)
    replace hHbx := hHbx.below hb (Nat.le_refl _)
    replace x0 := hHbx.x0
    replace x1 := hHbx.x1
    clear hb hB4
    go_wp2
    go_ret
    exact ⟨ret_bool (by simp), hB5⟩
end Go.Proofs.Ytohkoogmbfaceaa
