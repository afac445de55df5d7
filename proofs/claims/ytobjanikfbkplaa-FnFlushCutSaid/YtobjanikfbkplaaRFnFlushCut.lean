/- Walks: a law over steps: FnFlushCut. -/
import Derived.Test.YtobjanikfbkplaaY9
namespace Go.Proofs.Ytobjanikfbkplaa
set_option linter.unusedVariables false
set_option linter.unusedSimpArgs false
open Go.RowKit Go.Maps
set_option maxHeartbeats 400000
set_option maxHeartbeats 8000000 in
set_option maxRecDepth 100000 in
theorem law_FnFlushCut {w : World} (A : Option Addr) (bs : List Nat) (c : Nat) (hc : Code w A bs c) (A' : Option Addr) (bs' : List Nat) (c' : Nat) (hc' : Code w A' bs' c') :
    Calls Try.prog 5 #[.slice A bs.length c, .slice A' bs'.length c'] w fun e w' => e = .returned (.bool true) ∧ Below w.heap.size w w' := by
  by_cases hlen : (1048576 : Int) < bs.length
  · go_enter Try.func5, Try.ntmps5
    go_wp2
    go_ret
    exact ⟨rfl, Below.refl _ _⟩
  by_cases hlen' : (1048576 : Int) < bs'.length
  · go_enter Try.func5, Try.ntmps5
    go_wp2
    go_ret
    exact ⟨rfl, Below.refl _ _⟩
  go_enter Try.func5, Try.ntmps5
  go_wp2_with fail
  refine (spec_DrawStepsFlush A bs c _ hc).mono ?_
  rintro e w1 ⟨A1, D1, c1, d1, s, a, rfl, ha, hsm, hO, hB1⟩
  have hs1 := hB1.size
  have HSM := Lib.hid hsm
  have HA := Lib.hid ha
  clear hsm ha
  have hHbx := Held.new w1 (c := c1) (d := d1) hO.ofl.fl hO.disk rfl rfl
  have hBW1 := hB1.alloc hB1.size (.cells #[.slice A1 s.flash.length c1, .slice D1 s.disk.length d1] 26)
  have hzW1 : (w1.alloc (.cells #[.slice A1 s.flash.length c1, .slice D1 s.disk.length d1] 26)).heap.size = w1.heap.size + 1 := by simp
  obtain ⟨W1, hEW1⟩ : ∃ W, w1.alloc (.cells #[.slice A1 s.flash.length c1, .slice D1 s.disk.length d1] 26) = W := ⟨_, rfl⟩
  obtain ⟨bx, hEbx⟩ : ∃ b, w1.heap.size = b := ⟨_, rfl⟩
  rw [hEW1] at hHbx hBW1 hzW1
  rw [hEbx] at hHbx hzW1
  have x0 := hHbx.x0
  have x1 := hHbx.x1
  clear hB1
  clear hO
  obtain ⟨xs, hxs⟩ : ∃ xs, okSteps s (flush s a) = xs := ⟨_, rfl⟩
  have HXS := Lib.hid hxs
  clear hxs
  go_wp2_with fail
  refine (impl_StepsFlush_x HXS.out A1 D1 _ _ c1 d1 _ hHbx.hn hHbx.hm hHbx.fl hHbx.dk).mono ?_
  rintro e w2 ⟨V, vc, rfl, hX, _, hxc, hb⟩
  have hs2 := hb.size
  have hB2 := hBW1.trans (hb.mono hBW1.size)
  replace hHbx := hHbx.below hb (Nat.le_refl _)
  replace x0 := hHbx.x0
  replace x1 := hHbx.x1
  clear hb hBW1
  go_wp2_with fail
  refine (spec_StepsFlush_x HXS.out A1 D1 _ _ c1 d1 _ hHbx.hn hHbx.hm (small_fl HSM.out) hHbx.fl hHbx.dk).mono ?_
  rintro e w3 ⟨V3, vc3, rfl, _, _, _, hb⟩
  have hs3 := hb.size
  have hB3 := hB2.trans (hb.mono hB2.size)
  replace hHbx := hHbx.below hb (Nat.le_refl _)
  replace x0 := hHbx.x0
  replace x1 := hHbx.x1
  replace hX := hX.below hb (Nat.le_refl _)
  clear hb hB2
  have hself : ((xs.length : Int) != (xs.length : Int)) = false := by simp
  by_cases hne : xs = []
  · subst hne
    go_wp2_with fail
    refine (spec_StepsFlush_x HXS.out A1 D1 _ _ c1 d1 _ hHbx.hn hHbx.hm (small_fl HSM.out) hHbx.fl hHbx.dk).mono ?_
    rintro e w4 ⟨V4, vc4, rfl, _, _, _, hb⟩
    have hs4 := hb.size
    have hB4 := hB3.trans (hb.mono hB3.size)
    replace hHbx := hHbx.below hb (Nat.le_refl _)
    replace x0 := hHbx.x0
    replace x1 := hHbx.x1
    clear hb hB3
    go_wp2
    go_ret
    exact ⟨rfl, hB4⟩
  · have hpos : ((xs.length : Int) == 0) = false := by rw [beq_eq_false_iff_ne]; have := List.length_pos_iff.2 hne; omega
    obtain ⟨hok, hw⟩ := okSteps_okay (by rw [HXS.out]; exact hne)
    have HX := Lib.hid (HXS.out.symm.trans hw)
    have HOK := Lib.hid hok
    have HNE : Hid (flush s a ≠ []) := by rw [Hid, ← HX.out]; exact hne
    have HTA : Hid (∀ cut : Int, 0 ≤ cut → ∀ torn, toR s xs cut torn = (doTo s xs cut torn, true)) := by rw [Hid, HX.out]; exact fun cut hc torn => (by have := toR_steps HOK.out ⟨2, a, 0, cut, torn⟩ hc torn; rw [ev_flush] at this; exact this)
    have hxl : xs.length ≤ 8 := by rw [HX.out]; have := stepsOf_len HOK.out.fine ⟨2, a, 0, 0, false⟩; rw [ev_flush] at this; exact this
    have HL4 : Hid (s.flash.length = 4) := flashOk_len hok.flash
    have HL6 : Hid (s.disk.length = 6) := hok.len
    rw [HL4.out, HL6.out] at hHbx
    replace x0 := hHbx.x0
    replace x1 := hHbx.x1
    clear hok hw hne
    have hpz : ((xs.length : Int) + 1 = 0) = False := eq_false (by omega)
    obtain ⟨q, hq⟩ : ∃ q : Nat, bs'.length % (xs.length + 1) = q := ⟨_, rfl⟩
    have hql : q < xs.length + 1 := by have := Nat.mod_lt bs'.length (show 0 < xs.length + 1 by omega); omega
    have r1 : Int.tmod (bs'.length : Int) (((xs.length : Int) + 1)) = (q : Int) := by rw [Int.tmod_eq_emod_of_nonneg (by omega), ← hq]; rfl
    have r2 : (bs'.length : Int) % (((xs.length : Int) + 1)) = (q : Int) := by rw [← hq]; rfl
    clear hq
    generalize htt : ((bs'.length : Int) % 2 == 0) = tt at *
    have htt2 : (Int.tmod (bs'.length : Int) 2 == 0) = tt := by rw [Int.tmod_eq_emod_of_nonneg (by omega)]; exact htt
    have e0 : IntKind.i64.wrap ((xs.length : Int) + 1) = (xs.length : Int) + 1 := IntWalk.i64_in _ (by omega)
    obtain ⟨t, htd⟩ : ∃ t, doTo s xs (q : Int) tt = t := ⟨_, rfl⟩
    have HTR : Hid (toR s xs (q : Int) tt = (t, true)) := by rw [Hid, HTA.out _ (by omega), htd]
    have HPC : Hid (Okay t ∧ allV t = allV s) := by rw [Hid, ← htd, HX.out]; exact flush_cut HOK.out HNE.out (by omega) tt
    clear htd HTA HNE
    have hvd : Below w.heap.size w w3.drew := hB3.drew
    have hs := Lib.hid (fun X (h : Below w3.drew.heap.size w3.drew X) => hHbx.drew.below h (Nat.le_refl _))
    have hvb : Below w3.drew.heap.size w3.drew w3.drew := Below.refl _ _
    have hXx := Lib.hid (fun X (h : Below w3.drew.heap.size w3.drew X) => hX.drew.below h (Nat.le_refl _))
    clear hHbx hX hB3
    go_wp2
    refine wp_region_held_drew (S := fun X => X.cell? ⟨bx, 0, none⟩ = some (.slice A1 4 c1) ∧ X.cell? ⟨bx, 1, none⟩ = some (.slice D1 6 d1)) (by kernel_rfl) ⟨(hs.out _ hvb).x0, (hs.out _ hvb).x1⟩ (fun hHeld0 => ?_)
    refine wpAnyH_take (i := 0) (v := ?vr1) rfl (by kernel_rfl) (by kernel_rfl) (by kernel_rfl) (fun _ _ _ h => h) (Or.inl ⟨by kernel_rfl, ?yr1⟩) hHeld0 ?rr1
    case yr1 => (intro w' hS; (try dsimp only at hS); obtain ⟨s0, s1⟩ := hS; (try go_simp); (try with_reducible rfl))
    try simp only [Act.put, List.getElem_toArray, List.getElem_cons_zero, List.getElem_cons_succ, List.setIfInBounds_toArray, List.set_cons_zero, List.set_cons_succ]
    refine wpAnyH_take (i := 1) (v := ?vr2) rfl (by kernel_rfl) (by kernel_rfl) (by kernel_rfl) (fun _ _ _ h => h) (Or.inl ⟨by kernel_rfl, ?yr2⟩) hHeld0 ?rr2
    case yr2 => (intro w' hS; (try dsimp only at hS); obtain ⟨s0, s1⟩ := hS; (try go_simp); (try with_reducible rfl))
    try simp only [Act.put, List.getElem_toArray, List.getElem_cons_zero, List.getElem_cons_succ, List.setIfInBounds_toArray, List.set_cons_zero, List.set_cons_succ]
    refine wpAnyH_take (i := 2) (v := ?vr3) rfl (by kernel_rfl) (by kernel_rfl) (by kernel_rfl) (fun _ _ _ h => h) (Or.inl ⟨by kernel_rfl, ?yr3⟩) hHeld0 ?rr3
    case yr3 => (intro w' hS; (try dsimp only at hS); obtain ⟨s0, s1⟩ := hS; (try go_simp); (try with_reducible rfl))
    try simp only [Act.put, List.getElem_toArray, List.getElem_cons_zero, List.getElem_cons_succ, List.setIfInBounds_toArray, List.set_cons_zero, List.set_cons_succ]
    refine wpAnyH_take (i := 3) (v := ?vr4) rfl (by kernel_rfl) (by kernel_rfl) (by kernel_rfl) (fun _ _ _ h => h) (Or.inl ⟨by kernel_rfl, ?yr4⟩) hHeld0 ?rr4
    case yr4 => (intro w' hS; (try dsimp only at hS); obtain ⟨s0, s1⟩ := hS; (try go_simp); (try with_reducible rfl))
    try simp only [Act.put, List.getElem_toArray, List.getElem_cons_zero, List.getElem_cons_succ, List.setIfInBounds_toArray, List.set_cons_zero, List.set_cons_succ]
    refine wpAnyH_take (i := 4) (v := ?vr5) rfl (by kernel_rfl) (by kernel_rfl) (by kernel_rfl) (fun _ _ _ h => h) (Or.inl ⟨by kernel_rfl, ?yr5⟩) hHeld0 ?rr5
    case yr5 => (intro w' hS; (try dsimp only at hS); obtain ⟨s0, s1⟩ := hS; (try go_simp); (try with_reducible rfl))
    try simp only [Act.put, List.getElem_toArray, List.getElem_cons_zero, List.getElem_cons_succ, List.setIfInBounds_toArray, List.set_cons_zero, List.set_cons_succ]
    refine wpAnyH_take (i := 5) (v := ?vr6) rfl (by kernel_rfl) (by kernel_rfl) (by kernel_rfl) (fun _ _ _ h => h) (Or.inl ⟨by kernel_rfl, ?yr6⟩) hHeld0 ?rr6
    case yr6 => (intro w' hS; (try dsimp only at hS); obtain ⟨s0, s1⟩ := hS; (try go_simp); (try with_reducible rfl))
    try simp only [Act.put, List.getElem_toArray, List.getElem_cons_zero, List.getElem_cons_succ, List.setIfInBounds_toArray, List.set_cons_zero, List.set_cons_succ]
    refine wpAnyH_take (i := 6) (v := ?vr7) rfl (by kernel_rfl) (by kernel_rfl) (by kernel_rfl) (fun _ _ _ h => h) (Or.inl ⟨by kernel_rfl, ?yr7⟩) hHeld0 ?rr7
    case yr7 => (intro w' hS; (try dsimp only at hS); obtain ⟨s0, s1⟩ := hS; (try go_simp); (try with_reducible rfl))
    try simp only [Act.put, List.getElem_toArray, List.getElem_cons_zero, List.getElem_cons_succ, List.setIfInBounds_toArray, List.set_cons_zero, List.set_cons_succ]
    refine wpAnyH_take (i := 7) (v := ?vr8) rfl (by kernel_rfl) (by kernel_rfl) (by kernel_rfl) (fun _ _ _ h => h) (Or.inl ⟨by kernel_rfl, ?yr8⟩) hHeld0 ?rr8
    case yr8 => (intro w' hS; (try dsimp only at hS); obtain ⟨s0, s1⟩ := hS; (try go_simp); (try with_reducible rfl))
    try simp only [Act.put, List.getElem_toArray, List.getElem_cons_zero, List.getElem_cons_succ, List.setIfInBounds_toArray, List.set_cons_zero, List.set_cons_succ]
    refine wpAnyH_take (i := 8) (v := ?vr9) rfl (by kernel_rfl) (by kernel_rfl) (by kernel_rfl) (fun _ _ _ h => h) (Or.inl ⟨by kernel_rfl, ?yr9⟩) hHeld0 ?rr9
    case yr9 => (intro w' hS; (try dsimp only at hS); obtain ⟨s0, s1⟩ := hS; (try go_simp); (try with_reducible rfl))
    try simp only [Act.put, List.getElem_toArray, List.getElem_cons_zero, List.getElem_cons_succ, List.setIfInBounds_toArray, List.set_cons_zero, List.set_cons_succ]
    refine wpAnyH_take (i := 9) (v := ?vr10) rfl (by kernel_rfl) (by kernel_rfl) (by kernel_rfl) (fun _ _ _ h => h) (Or.inl ⟨by kernel_rfl, ?yr10⟩) hHeld0 ?rr10
    case yr10 => (intro w' hS; (try dsimp only at hS); obtain ⟨s0, s1⟩ := hS; (try go_simp); (try with_reducible rfl))
    try simp only [Act.put, List.getElem_toArray, List.getElem_cons_zero, List.getElem_cons_succ, List.setIfInBounds_toArray, List.set_cons_zero, List.set_cons_succ]
    refine wpAnyH_take (i := 10) (v := ?vr11) rfl (by kernel_rfl) (by kernel_rfl) (by kernel_rfl) (fun _ _ _ h => h) (Or.inl ⟨by kernel_rfl, ?yr11⟩) hHeld0 ?rr11
    case yr11 => (intro w' hS; (try dsimp only at hS); obtain ⟨s0, s1⟩ := hS; (try go_simp); (try with_reducible rfl))
    try simp only [Act.put, List.getElem_toArray, List.getElem_cons_zero, List.getElem_cons_succ, List.setIfInBounds_toArray, List.set_cons_zero, List.set_cons_succ]
    refine wpAnyH_take (i := 11) (v := ?vr12) rfl (by kernel_rfl) (by kernel_rfl) (by kernel_rfl) (fun _ _ _ h => h) (Or.inl ⟨by kernel_rfl, ?yr12⟩) hHeld0 ?rr12
    case yr12 => (intro w' hS; (try dsimp only at hS); obtain ⟨s0, s1⟩ := hS; (try go_simp); (try with_reducible rfl))
    try simp only [Act.put, List.getElem_toArray, List.getElem_cons_zero, List.getElem_cons_succ, List.setIfInBounds_toArray, List.set_cons_zero, List.set_cons_succ]
    refine wpAnyH_ready (rs := [12, 16]) (by kernel_rfl) (by simp) ?_
    refine AllReadyH.cons rfl (fun K hK => ?_) (AllReadyH.cons rfl (fun K hK => ?_) AllReadyH.nil)
    · go_simp
      refine (impl_StepsTo_t HTR.out HPC.out.1.fine (by omega) A1 D1 V 4 6 c1 d1 vc _ _ (hs.out _ hvb).hn (hs.out _ hvb).hm rfl (hs.out _ hvb).fl (hs.out _ hvb).dk (hXx.out _ hvb)).mono ?_
      rintro e w4 ⟨A4, c4, D4, d4, rfl, hF4, hD4, hl4, hc⟩
      have hb4 := hvb.trans (hc.mono hvb.size)
      have hz4 := hc.size
      go_wp2_with fail
      refine hK.out _ _ (⟨(hs.out _ hb4).x0, (hs.out _ hb4).x1⟩) (fun hHr1 => ?_)
      clear hK K
      try simp only [Act.put, List.getElem_toArray, List.getElem_cons_zero, List.getElem_cons_succ, List.setIfInBounds_toArray, List.set_cons_zero, List.set_cons_succ]
      refine wpAnyH_take (i := 13) (v := ?vr13) rfl (by kernel_rfl) (by kernel_rfl) (by kernel_rfl) (fun _ _ _ h => h) (Or.inl ⟨by kernel_rfl, ?yr13⟩) hHr1 ?rr13
      case yr13 => (intro w' hS; (try dsimp only at hS); obtain ⟨s0, s1⟩ := hS; (try go_simp); (try with_reducible rfl))
      try simp only [Act.put, List.getElem_toArray, List.getElem_cons_zero, List.getElem_cons_succ, List.setIfInBounds_toArray, List.set_cons_zero, List.set_cons_succ]
      refine wpAnyH_take (i := 14) (v := ?vr14) rfl (by kernel_rfl) (by kernel_rfl) (by kernel_rfl) (fun _ _ _ h => h) (Or.inl ⟨by kernel_rfl, ?yr14⟩) hHr1 ?rr14
      case yr14 => (intro w' hS; (try dsimp only at hS); obtain ⟨s0, s1⟩ := hS; (try go_simp); (try with_reducible rfl))
      try simp only [Act.put, List.getElem_toArray, List.getElem_cons_zero, List.getElem_cons_succ, List.setIfInBounds_toArray, List.set_cons_zero, List.set_cons_succ]
      refine wpAnyH_take (i := 15) (v := ?vr15) rfl (by kernel_rfl) (by kernel_rfl) (by kernel_rfl) (fun _ _ _ h => h) (Or.inl ⟨by kernel_rfl, ?yr15⟩) hHr1 ?rr15
      case yr15 => (intro w' hS; (try dsimp only at hS); obtain ⟨s0, s1⟩ := hS; (try go_simp); (try with_reducible rfl))
      try simp only [Act.put, List.getElem_toArray, List.getElem_cons_zero, List.getElem_cons_succ, List.setIfInBounds_toArray, List.set_cons_zero, List.set_cons_succ]
      refine wpAnyH_ready (rs := [16]) (by kernel_rfl) (by simp) ?_
      refine AllReadyH.cons rfl (fun K hK => ?_) AllReadyH.nil
      go_simp
      obtain ⟨bz, hbz⟩ : ∃ b, w4.heap.size = b := ⟨_, rfl⟩
      have hbz' : w4.heap.size = bz := hbz
      have hq := Row.new w4 #[.slice none 0 0, .slice none 0 0] 26
      have hb3 := hb4.alloc hb4.size (.cells #[.slice none 0 0, .slice none 0 0] 26)
      rw [hbz'] at hq
      (try simp only [hbz])
      obtain ⟨z0, z2⟩ := hq.at0 (j := 0) rfl
      obtain ⟨z1, z3⟩ := hq.at0 (j := 1) rfl
      have hzs : (w4.alloc (.cells #[.slice none 0 0, .slice none 0 0] 26)).heap.size = bz + 1 := by rw [← hbz']; simp
      refine hK.out _ _ (⟨(hs.out _ hb3).x0, (hs.out _ hb3).x1⟩) (fun hHr2 => ?_)
      clear hK K
      try simp only [Act.put, List.getElem_toArray, List.getElem_cons_zero, List.getElem_cons_succ, List.setIfInBounds_toArray, List.set_cons_zero, List.set_cons_succ]
      refine wpAnyH_ready (rs := [17]) (by kernel_rfl) (by simp) ?_
      refine AllReadyH.cons rfl (fun K hK => ?_) AllReadyH.nil
      go_simp
      have hb8 := hb4.alloc hb4.size (.cells #[.slice A4 4 c4, .slice D4 6 d4] 26)
      have hq8 := Row.new w4 #[.slice A4 4 c4, .slice D4 6 d4] 26
      rw [hbz] at hq8
      obtain ⟨r0, _⟩ := hq8.at0 (j := 0) rfl
      obtain ⟨r1, _⟩ := hq8.at0 (j := 1) rfl
      have hF6 := hF4.fl.alloc (.cells #[.slice A4 4 c4, .slice D4 6 d4] 26)
      have hD6 := hD4.alloc (.cells #[.slice A4 4 c4, .slice D4 6 d4] 26)
      refine hK.out _ _ (⟨(hs.out _ hb8).x0, (hs.out _ hb8).x1⟩) (fun hHr3 => ?_)
      clear hK K
      try simp only [Act.put, List.getElem_toArray, List.getElem_cons_zero, List.getElem_cons_succ, List.setIfInBounds_toArray, List.set_cons_zero, List.set_cons_succ]
      refine wpAnyH_take (i := 18) (v := ?vr16) rfl (by kernel_rfl) (by kernel_rfl) (by kernel_rfl) (fun _ _ _ h => h) (Or.inl ⟨by kernel_rfl, ?yr16⟩) hHr3 ?rr16
      case yr16 => (intro w' hS; (try dsimp only at hS); obtain ⟨s0, s1⟩ := hS; (try go_simp); (try with_reducible rfl))
      try simp only [Act.put, List.getElem_toArray, List.getElem_cons_zero, List.getElem_cons_succ, List.setIfInBounds_toArray, List.set_cons_zero, List.set_cons_succ]
      refine wpAnyH_done (by kernel_rfl) ?_ _
      have hHs := hs.out _ hb8
      have hHt : Held (w4.alloc (.cells #[.slice A4 4 c4, .slice D4 6 d4] 26)) bz A4 D4 4 c4 6 d4 t := ⟨hF6, hD6, r0, r1, (flashOk_len HPC.out.1.flash).symm, HPC.out.1.len.symm⟩
      have hB5 := hvd.trans (hb8.mono (by have h := hvd.size; exact h))
      obtain ⟨W5, hW5⟩ : ∃ W, (w4.alloc (.cells #[.slice A4 4 c4, .slice D4 6 d4] 26)) = W := ⟨_, rfl⟩
      rw [hW5] at hHs hHt hB5
      (try rw [hW5])
      clear hW5 hb8 hb4 r0 r1 hF6 hD6 hF4 hD4 hl4
      clear hs hXx hvd hvb
      have t0 := hHt.x0
      have t1 := hHt.x1
      have u0 := hHs.x0
      have u1 := hHs.x1
      have hs2 := Lib.hid (fun X (h : Below W5.drew.heap.size W5.drew X) => hHs.drew.below h (Nat.le_refl _))
      have ht2 := Lib.hid (fun X (h : Below W5.drew.heap.size W5.drew X) => hHt.drew.below h (Nat.le_refl _))
      have hvb2 : Below W5.drew.heap.size W5.drew W5.drew := Below.refl _ _
      have hvd2 : Below w.heap.size w W5.drew := hB5.drew
      clear hHs hHt
      go_wp2
      refine wp_region_held_drew (S := fun X => X.cell? ⟨bx, 0, none⟩ = some (.slice A1 4 c1) ∧ X.cell? ⟨bx, 1, none⟩ = some (.slice D1 6 d1) ∧ X.cell? ⟨bz, 0, none⟩ = some (.slice A4 4 c4) ∧ X.cell? ⟨bz, 1, none⟩ = some (.slice D4 6 d4)) (by kernel_rfl) ⟨(hs2.out _ hvb2).x0, (hs2.out _ hvb2).x1, (ht2.out _ hvb2).x0, (ht2.out _ hvb2).x1⟩ (fun hHeld0 => ?_)
      refine wpAnyH_take (i := 0) (v := ?vrx1) rfl (by kernel_rfl) (by kernel_rfl) (by kernel_rfl) (fun _ _ _ h => h) (Or.inl ⟨by kernel_rfl, ?yrx1⟩) hHeld0 ?rrx1
      case yrx1 => (intro w' hS; (try dsimp only at hS); obtain ⟨s0, s1, s2, s3⟩ := hS; (try go_simp); (try with_reducible rfl))
      try simp only [Act.put, List.getElem_toArray, List.getElem_cons_zero, List.getElem_cons_succ, List.setIfInBounds_toArray, List.set_cons_zero, List.set_cons_succ]
      refine wpAnyH_take (i := 1) (v := ?vrx2) rfl (by kernel_rfl) (by kernel_rfl) (by kernel_rfl) (fun _ _ _ h => h) (Or.inl ⟨by kernel_rfl, ?yrx2⟩) hHeld0 ?rrx2
      case yrx2 => (intro w' hS; (try dsimp only at hS); obtain ⟨s0, s1, s2, s3⟩ := hS; (try go_simp); (try with_reducible rfl))
      try simp only [Act.put, List.getElem_toArray, List.getElem_cons_zero, List.getElem_cons_succ, List.setIfInBounds_toArray, List.set_cons_zero, List.set_cons_succ]
      refine wpAnyH_take (i := 2) (v := ?vrx3) rfl (by kernel_rfl) (by kernel_rfl) (by kernel_rfl) (fun _ _ _ h => h) (Or.inl ⟨by kernel_rfl, ?yrx3⟩) hHeld0 ?rrx3
      case yrx3 => (intro w' hS; (try dsimp only at hS); obtain ⟨s0, s1, s2, s3⟩ := hS; (try go_simp); (try with_reducible rfl))
      try simp only [Act.put, List.getElem_toArray, List.getElem_cons_zero, List.getElem_cons_succ, List.setIfInBounds_toArray, List.set_cons_zero, List.set_cons_succ]
      refine wpAnyH_take (i := 4) (v := ?vrx4) rfl (by kernel_rfl) (by kernel_rfl) (by kernel_rfl) (fun _ _ _ h => h) (Or.inl ⟨by kernel_rfl, ?yrx4⟩) hHeld0 ?rrx4
      case yrx4 => (intro w' hS; (try dsimp only at hS); obtain ⟨s0, s1, s2, s3⟩ := hS; (try go_simp); (try with_reducible rfl))
      try simp only [Act.put, List.getElem_toArray, List.getElem_cons_zero, List.getElem_cons_succ, List.setIfInBounds_toArray, List.set_cons_zero, List.set_cons_succ]
      refine wpAnyH_ready (rs := [3]) (by kernel_rfl) (by simp) ?_
      refine AllReadyH.cons rfl (fun K hK => ?_) AllReadyH.nil
      go_simp
      refine (impl_StoreAll_ok HPC.out.1 A4 D4 c4 d4 _ (ht2.out _ hvb2).fl (ht2.out _ hvb2).dk).mono ?_
      rintro e rxu1 ⟨A11, c11, rfl, hL11, hc⟩
      have rxb1 := hvb2.trans (hc.mono hvb2.size)
      clear hc
      go_wp2_with fail
      refine hK.out _ _ (⟨(hs2.out _ rxb1).x0, (hs2.out _ rxb1).x1, (ht2.out _ rxb1).x0, (ht2.out _ rxb1).x1⟩) (fun hHrx1 => ?_)
      clear hK K
      try simp only [Act.put, List.getElem_toArray, List.getElem_cons_zero, List.getElem_cons_succ, List.setIfInBounds_toArray, List.set_cons_zero, List.set_cons_succ]
      refine wpAnyH_ready (rs := [5]) (by kernel_rfl) (by simp) ?_
      refine AllReadyH.cons rfl (fun K hK => ?_) AllReadyH.nil
      go_simp
      refine (impl_StoreAll_ok HOK.out A1 D1 c1 d1 _ (hs2.out _ rxb1).fl (hs2.out _ rxb1).dk).mono ?_
      rintro e rxu2 ⟨A12, c12, rfl, hL12, hc⟩
      have rxb2 := rxb1.trans (hc.mono rxb1.size)
      replace hL11 := hL11.below hc (Nat.le_refl _)
      clear hc
      go_wp2_with fail
      refine hK.out _ _ (⟨(hs2.out _ rxb2).x0, (hs2.out _ rxb2).x1, (ht2.out _ rxb2).x0, (ht2.out _ rxb2).x1⟩) (fun hHrx2 => ?_)
      clear hK K
      try simp only [Act.put, List.getElem_toArray, List.getElem_cons_zero, List.getElem_cons_succ, List.setIfInBounds_toArray, List.set_cons_zero, List.set_cons_succ]
      refine wpAnyH_ready (rs := [6]) (by kernel_rfl) (by simp) ?_
      refine AllReadyH.cons rfl (fun K hK => ?_) AllReadyH.nil
      go_simp
      refine (laws_lqInts_6 HPC.out.2 rfl A11 A12 c11 c12 _ hL11 hL12).mono ?_
      rintro e rxu3 ⟨rfl, hc⟩
      have rxb3 := rxb2.trans (hc.mono rxb2.size)
      replace hL11 := hL11.below hc (Nat.le_refl _)
      replace hL12 := hL12.below hc (Nat.le_refl _)
      clear hc
      go_wp2_with fail
      refine hK.out _ _ (⟨(hs2.out _ rxb3).x0, (hs2.out _ rxb3).x1, (ht2.out _ rxb3).x0, (ht2.out _ rxb3).x1⟩) (fun hHrx3 => ?_)
      clear hK K
      try simp only [Act.put, List.getElem_toArray, List.getElem_cons_zero, List.getElem_cons_succ, List.setIfInBounds_toArray, List.set_cons_zero, List.set_cons_succ]
      refine wpAnyH_take (i := 7) (v := ?vrx5) rfl (by kernel_rfl) (by kernel_rfl) (by kernel_rfl) (fun _ _ _ h => h) (Or.inl ⟨by kernel_rfl, ?yrx5⟩) hHrx3 ?rrx5
      case yrx5 => (intro w' hS; (try dsimp only at hS); obtain ⟨s0, s1, s2, s3⟩ := hS; (try go_simp); (try with_reducible rfl))
      try simp only [Act.put, List.getElem_toArray, List.getElem_cons_zero, List.getElem_cons_succ, List.setIfInBounds_toArray, List.set_cons_zero, List.set_cons_succ]
      refine wpAnyH_take (i := 8) (v := ?vrx6) rfl (by kernel_rfl) (by kernel_rfl) (by kernel_rfl) (fun _ _ _ h => h) (Or.inl ⟨by kernel_rfl, ?yrx6⟩) hHrx3 ?rrx6
      case yrx6 => (intro w' hS; (try dsimp only at hS); obtain ⟨s0, s1, s2, s3⟩ := hS; (try go_simp); (try with_reducible rfl))
      try simp only [Act.put, List.getElem_toArray, List.getElem_cons_zero, List.getElem_cons_succ, List.setIfInBounds_toArray, List.set_cons_zero, List.set_cons_succ]
      refine wpAnyH_take (i := 9) (v := ?vrx7) rfl (by kernel_rfl) (by kernel_rfl) (by kernel_rfl) (fun _ _ _ h => h) (Or.inl ⟨by kernel_rfl, ?yrx7⟩) hHrx3 ?rrx7
      case yrx7 => (intro w' hS; (try dsimp only at hS); obtain ⟨s0, s1, s2, s3⟩ := hS; (try go_simp); (try with_reducible rfl))
      try simp only [Act.put, List.getElem_toArray, List.getElem_cons_zero, List.getElem_cons_succ, List.setIfInBounds_toArray, List.set_cons_zero, List.set_cons_succ]
      refine wpAnyH_ready (rs := [10]) (by kernel_rfl) (by simp) ?_
      refine AllReadyH.cons rfl (fun K hK => ?_) AllReadyH.nil
      go_simp
      refine (impl_StoreOk_ok HPC.out.1 A4 D4 c4 d4 _ (ht2.out _ rxb3).fl (ht2.out _ rxb3).dk).mono ?_
      rintro e rxu4 ⟨rfl, hc⟩
      have rxb4 := rxb3.trans (hc.mono rxb3.size)
      replace hL11 := hL11.below hc (Nat.le_refl _)
      replace hL12 := hL12.below hc (Nat.le_refl _)
      clear hc
      go_wp2_with fail
      refine hK.out _ _ (⟨(hs2.out _ rxb4).x0, (hs2.out _ rxb4).x1, (ht2.out _ rxb4).x0, (ht2.out _ rxb4).x1⟩) (fun hHrx4 => ?_)
      clear hK K
      try simp only [Act.put, List.getElem_toArray, List.getElem_cons_zero, List.getElem_cons_succ, List.setIfInBounds_toArray, List.set_cons_zero, List.set_cons_succ]
      refine wpAnyH_take (i := 11) (v := ?vrx8) rfl (by kernel_rfl) (by kernel_rfl) (by kernel_rfl) (fun _ _ _ h => h) (Or.inl ⟨by kernel_rfl, ?yrx8⟩) hHrx4 ?rrx8
      case yrx8 => (intro w' hS; (try dsimp only at hS); obtain ⟨s0, s1, s2, s3⟩ := hS; (try go_simp); (try with_reducible rfl))
      try simp only [Act.put, List.getElem_toArray, List.getElem_cons_zero, List.getElem_cons_succ, List.setIfInBounds_toArray, List.set_cons_zero, List.set_cons_succ]
      refine wpAnyH_take (i := 12) (v := ?vrx9) rfl (by kernel_rfl) (by kernel_rfl) (by kernel_rfl) (fun _ _ _ h => h) (Or.inl ⟨by kernel_rfl, ?yrx9⟩) hHrx4 ?rrx9
      case yrx9 => (intro w' hS; (try dsimp only at hS); obtain ⟨s0, s1, s2, s3⟩ := hS; (try go_simp); (try with_reducible rfl))
      try simp only [Act.put, List.getElem_toArray, List.getElem_cons_zero, List.getElem_cons_succ, List.setIfInBounds_toArray, List.set_cons_zero, List.set_cons_succ]
      refine wpAnyH_done (by kernel_rfl) ?_ _
      have hBf := hvd2.trans (rxb4.mono (by have h := hvd2.size; exact h))
      go_wp2
      go_ret
      exact ⟨rfl, hBf⟩
    · go_simp
      obtain ⟨bz, hbz⟩ : ∃ b, w3.heap.size = b := ⟨_, rfl⟩
      have hbz' : w3.drew.heap.size = bz := hbz
      have hq := Row.new w3.drew #[.slice none 0 0, .slice none 0 0] 26
      have hb3 := hvb.alloc hvb.size (.cells #[.slice none 0 0, .slice none 0 0] 26)
      rw [hbz'] at hq
      (try simp only [hbz])
      obtain ⟨z0, z2⟩ := hq.at0 (j := 0) rfl
      obtain ⟨z1, z3⟩ := hq.at0 (j := 1) rfl
      have hzs : (w3.drew.alloc (.cells #[.slice none 0 0, .slice none 0 0] 26)).heap.size = bz + 1 := by rw [← hbz']; simp
      have hzs2 : (w3.alloc (.cells #[.slice none 0 0, .slice none 0 0] 26)).drew.heap.size = bz + 1 := hzs
      refine hK.out _ _ (⟨(hs.out _ hb3).x0, (hs.out _ hb3).x1⟩) (fun hHr4 => ?_)
      clear hK K
      try simp only [Act.put, List.getElem_toArray, List.getElem_cons_zero, List.getElem_cons_succ, List.setIfInBounds_toArray, List.set_cons_zero, List.set_cons_succ]
      refine wpAnyH_ready (rs := [12]) (by kernel_rfl) (by simp) ?_
      refine AllReadyH.cons rfl (fun K hK => ?_) AllReadyH.nil
      go_simp
      refine (impl_StepsTo_t HTR.out HPC.out.1.fine (by omega) A1 D1 V 4 6 c1 d1 vc _ _ (hs.out _ hb3).hn (hs.out _ hb3).hm rfl (hs.out _ hb3).fl (hs.out _ hb3).dk (hXx.out _ hb3)).mono ?_
      rintro e w4 ⟨A4, c4, D4, d4, rfl, hF4, hD4, hl4, hc⟩
      have hb4 := hb3.trans (hc.mono hb3.size)
      have hz4 := hc.size
      have y0 := (hc.cell (p := ⟨bz, 0, none⟩) (by show bz < _; omega)).trans z0
      have y1 := (hc.cell (p := ⟨bz, 1, none⟩) (by show bz < _; omega)).trans z1
      have y2 := (hc.frozen (p := ⟨bz, 0, none⟩) (by show bz < _; omega)).trans z2
      have y3 := (hc.frozen (p := ⟨bz, 1, none⟩) (by show bz < _; omega)).trans z3
      go_wp2_with fail
      refine hK.out _ _ (⟨(hs.out _ hb4).x0, (hs.out _ hb4).x1⟩) (fun hHr5 => ?_)
      clear hK K
      try simp only [Act.put, List.getElem_toArray, List.getElem_cons_zero, List.getElem_cons_succ, List.setIfInBounds_toArray, List.set_cons_zero, List.set_cons_succ]
      refine wpAnyH_take (i := 13) (v := ?vr17) rfl (by kernel_rfl) (by kernel_rfl) (by kernel_rfl) (fun _ _ _ h => h) (Or.inl ⟨by kernel_rfl, ?yr17⟩) hHr5 ?rr17
      case yr17 => (intro w' hS; (try dsimp only at hS); obtain ⟨s0, s1⟩ := hS; (try go_simp); (try with_reducible rfl))
      try simp only [Act.put, List.getElem_toArray, List.getElem_cons_zero, List.getElem_cons_succ, List.setIfInBounds_toArray, List.set_cons_zero, List.set_cons_succ]
      refine wpAnyH_take (i := 14) (v := ?vr18) rfl (by kernel_rfl) (by kernel_rfl) (by kernel_rfl) (fun _ _ _ h => h) (Or.inl ⟨by kernel_rfl, ?yr18⟩) hHr5 ?rr18
      case yr18 => (intro w' hS; (try dsimp only at hS); obtain ⟨s0, s1⟩ := hS; (try go_simp); (try with_reducible rfl))
      try simp only [Act.put, List.getElem_toArray, List.getElem_cons_zero, List.getElem_cons_succ, List.setIfInBounds_toArray, List.set_cons_zero, List.set_cons_succ]
      refine wpAnyH_take (i := 15) (v := ?vr19) rfl (by kernel_rfl) (by kernel_rfl) (by kernel_rfl) (fun _ _ _ h => h) (Or.inl ⟨by kernel_rfl, ?yr19⟩) hHr5 ?rr19
      case yr19 => (intro w' hS; (try dsimp only at hS); obtain ⟨s0, s1⟩ := hS; (try go_simp); (try with_reducible rfl))
      try simp only [Act.put, List.getElem_toArray, List.getElem_cons_zero, List.getElem_cons_succ, List.setIfInBounds_toArray, List.set_cons_zero, List.set_cons_succ]
      refine wpAnyH_ready (rs := [17]) (by kernel_rfl) (by simp) ?_
      refine AllReadyH.cons rfl (fun K hK => ?_) AllReadyH.nil
      go_simp
      have hWs := laid_cells y0 y1 (.slice A4 4 c4) (.slice D4 6 d4)
      have hsz0 := hb4.size
      have hb8 := hb4.trans (hWs.agr.below (B := w3.drew.heap.size) hsz0 (fun i hi => by show w3.heap.size ≤ i; omega))
      have r0 := hWs.new_ 0 _ rfl
      have r1 := hWs.new_ 1 _ rfl
      rw [Nat.add_zero] at r0
      have hF6 := (hF4.keep (w' := ((w4.setCell ⟨bz, 0, none⟩ (.slice A4 4 c4)).setCell ⟨bz, 1, none⟩ (.slice D4 6 d4))) fun b hb hl => hWs.block b (by omega)).fl
      have hD6 := hD4.keep (w' := ((w4.setCell ⟨bz, 0, none⟩ (.slice A4 4 c4)).setCell ⟨bz, 1, none⟩ (.slice D4 6 d4))) fun b hb hl => hWs.block b (by have := hl4 b hb; omega)
      refine hK.out _ _ (⟨(hs.out _ hb8).x0, (hs.out _ hb8).x1⟩) (fun hHr6 => ?_)
      clear hK K
      try simp only [Act.put, List.getElem_toArray, List.getElem_cons_zero, List.getElem_cons_succ, List.setIfInBounds_toArray, List.set_cons_zero, List.set_cons_succ]
      refine wpAnyH_take (i := 18) (v := ?vr20) rfl (by kernel_rfl) (by kernel_rfl) (by kernel_rfl) (fun _ _ _ h => h) (Or.inl ⟨by kernel_rfl, ?yr20⟩) hHr6 ?rr20
      case yr20 => (intro w' hS; (try dsimp only at hS); obtain ⟨s0, s1⟩ := hS; (try go_simp); (try with_reducible rfl))
      try simp only [Act.put, List.getElem_toArray, List.getElem_cons_zero, List.getElem_cons_succ, List.setIfInBounds_toArray, List.set_cons_zero, List.set_cons_succ]
      refine wpAnyH_done (by kernel_rfl) ?_ _
      have hHs := hs.out _ hb8
      have hHt : Held ((w4.setCell ⟨bz, 0, none⟩ (.slice A4 4 c4)).setCell ⟨bz, 1, none⟩ (.slice D4 6 d4)) bz A4 D4 4 c4 6 d4 t := ⟨hF6, hD6, r0, r1, (flashOk_len HPC.out.1.flash).symm, HPC.out.1.len.symm⟩
      have hB5 := hvd.trans (hb8.mono (by have h := hvd.size; exact h))
      obtain ⟨W5, hW5⟩ : ∃ W, ((w4.setCell ⟨bz, 0, none⟩ (.slice A4 4 c4)).setCell ⟨bz, 1, none⟩ (.slice D4 6 d4)) = W := ⟨_, rfl⟩
      rw [hW5] at hHs hHt hB5
      (try rw [hW5])
      clear hW5 hb8 hb4 r0 r1 hF6 hD6 hF4 hD4 hl4
      clear hs hXx hvd hvb
      have t0 := hHt.x0
      have t1 := hHt.x1
      have u0 := hHs.x0
      have u1 := hHs.x1
      have hs2 := Lib.hid (fun X (h : Below W5.drew.heap.size W5.drew X) => hHs.drew.below h (Nat.le_refl _))
      have ht2 := Lib.hid (fun X (h : Below W5.drew.heap.size W5.drew X) => hHt.drew.below h (Nat.le_refl _))
      have hvb2 : Below W5.drew.heap.size W5.drew W5.drew := Below.refl _ _
      have hvd2 : Below w.heap.size w W5.drew := hB5.drew
      clear hHs hHt
      go_wp2
      refine wp_region_held_drew (S := fun X => X.cell? ⟨bx, 0, none⟩ = some (.slice A1 4 c1) ∧ X.cell? ⟨bx, 1, none⟩ = some (.slice D1 6 d1) ∧ X.cell? ⟨bz, 0, none⟩ = some (.slice A4 4 c4) ∧ X.cell? ⟨bz, 1, none⟩ = some (.slice D4 6 d4)) (by kernel_rfl) ⟨(hs2.out _ hvb2).x0, (hs2.out _ hvb2).x1, (ht2.out _ hvb2).x0, (ht2.out _ hvb2).x1⟩ (fun hHeld0 => ?_)
      refine wpAnyH_take (i := 0) (v := ?vry1) rfl (by kernel_rfl) (by kernel_rfl) (by kernel_rfl) (fun _ _ _ h => h) (Or.inl ⟨by kernel_rfl, ?yry1⟩) hHeld0 ?rry1
      case yry1 => (intro w' hS; (try dsimp only at hS); obtain ⟨s0, s1, s2, s3⟩ := hS; (try go_simp); (try with_reducible rfl))
      try simp only [Act.put, List.getElem_toArray, List.getElem_cons_zero, List.getElem_cons_succ, List.setIfInBounds_toArray, List.set_cons_zero, List.set_cons_succ]
      refine wpAnyH_take (i := 1) (v := ?vry2) rfl (by kernel_rfl) (by kernel_rfl) (by kernel_rfl) (fun _ _ _ h => h) (Or.inl ⟨by kernel_rfl, ?yry2⟩) hHeld0 ?rry2
      case yry2 => (intro w' hS; (try dsimp only at hS); obtain ⟨s0, s1, s2, s3⟩ := hS; (try go_simp); (try with_reducible rfl))
      try simp only [Act.put, List.getElem_toArray, List.getElem_cons_zero, List.getElem_cons_succ, List.setIfInBounds_toArray, List.set_cons_zero, List.set_cons_succ]
      refine wpAnyH_take (i := 2) (v := ?vry3) rfl (by kernel_rfl) (by kernel_rfl) (by kernel_rfl) (fun _ _ _ h => h) (Or.inl ⟨by kernel_rfl, ?yry3⟩) hHeld0 ?rry3
      case yry3 => (intro w' hS; (try dsimp only at hS); obtain ⟨s0, s1, s2, s3⟩ := hS; (try go_simp); (try with_reducible rfl))
      try simp only [Act.put, List.getElem_toArray, List.getElem_cons_zero, List.getElem_cons_succ, List.setIfInBounds_toArray, List.set_cons_zero, List.set_cons_succ]
      refine wpAnyH_take (i := 4) (v := ?vry4) rfl (by kernel_rfl) (by kernel_rfl) (by kernel_rfl) (fun _ _ _ h => h) (Or.inl ⟨by kernel_rfl, ?yry4⟩) hHeld0 ?rry4
      case yry4 => (intro w' hS; (try dsimp only at hS); obtain ⟨s0, s1, s2, s3⟩ := hS; (try go_simp); (try with_reducible rfl))
      try simp only [Act.put, List.getElem_toArray, List.getElem_cons_zero, List.getElem_cons_succ, List.setIfInBounds_toArray, List.set_cons_zero, List.set_cons_succ]
      refine wpAnyH_ready (rs := [3]) (by kernel_rfl) (by simp) ?_
      refine AllReadyH.cons rfl (fun K hK => ?_) AllReadyH.nil
      go_simp
      refine (impl_StoreAll_ok HPC.out.1 A4 D4 c4 d4 _ (ht2.out _ hvb2).fl (ht2.out _ hvb2).dk).mono ?_
      rintro e ryu1 ⟨A11, c11, rfl, hL11, hc⟩
      have ryb1 := hvb2.trans (hc.mono hvb2.size)
      clear hc
      go_wp2_with fail
      refine hK.out _ _ (⟨(hs2.out _ ryb1).x0, (hs2.out _ ryb1).x1, (ht2.out _ ryb1).x0, (ht2.out _ ryb1).x1⟩) (fun hHry1 => ?_)
      clear hK K
      try simp only [Act.put, List.getElem_toArray, List.getElem_cons_zero, List.getElem_cons_succ, List.setIfInBounds_toArray, List.set_cons_zero, List.set_cons_succ]
      refine wpAnyH_ready (rs := [5]) (by kernel_rfl) (by simp) ?_
      refine AllReadyH.cons rfl (fun K hK => ?_) AllReadyH.nil
      go_simp
      refine (impl_StoreAll_ok HOK.out A1 D1 c1 d1 _ (hs2.out _ ryb1).fl (hs2.out _ ryb1).dk).mono ?_
      rintro e ryu2 ⟨A12, c12, rfl, hL12, hc⟩
      have ryb2 := ryb1.trans (hc.mono ryb1.size)
      replace hL11 := hL11.below hc (Nat.le_refl _)
      clear hc
      go_wp2_with fail
      refine hK.out _ _ (⟨(hs2.out _ ryb2).x0, (hs2.out _ ryb2).x1, (ht2.out _ ryb2).x0, (ht2.out _ ryb2).x1⟩) (fun hHry2 => ?_)
      clear hK K
      try simp only [Act.put, List.getElem_toArray, List.getElem_cons_zero, List.getElem_cons_succ, List.setIfInBounds_toArray, List.set_cons_zero, List.set_cons_succ]
      refine wpAnyH_ready (rs := [6]) (by kernel_rfl) (by simp) ?_
      refine AllReadyH.cons rfl (fun K hK => ?_) AllReadyH.nil
      go_simp
      refine (laws_lqInts_6 HPC.out.2 rfl A11 A12 c11 c12 _ hL11 hL12).mono ?_
      rintro e ryu3 ⟨rfl, hc⟩
      have ryb3 := ryb2.trans (hc.mono ryb2.size)
      replace hL11 := hL11.below hc (Nat.le_refl _)
      replace hL12 := hL12.below hc (Nat.le_refl _)
      clear hc
      go_wp2_with fail
      refine hK.out _ _ (⟨(hs2.out _ ryb3).x0, (hs2.out _ ryb3).x1, (ht2.out _ ryb3).x0, (ht2.out _ ryb3).x1⟩) (fun hHry3 => ?_)
      clear hK K
      try simp only [Act.put, List.getElem_toArray, List.getElem_cons_zero, List.getElem_cons_succ, List.setIfInBounds_toArray, List.set_cons_zero, List.set_cons_succ]
      refine wpAnyH_take (i := 7) (v := ?vry5) rfl (by kernel_rfl) (by kernel_rfl) (by kernel_rfl) (fun _ _ _ h => h) (Or.inl ⟨by kernel_rfl, ?yry5⟩) hHry3 ?rry5
      case yry5 => (intro w' hS; (try dsimp only at hS); obtain ⟨s0, s1, s2, s3⟩ := hS; (try go_simp); (try with_reducible rfl))
      try simp only [Act.put, List.getElem_toArray, List.getElem_cons_zero, List.getElem_cons_succ, List.setIfInBounds_toArray, List.set_cons_zero, List.set_cons_succ]
      refine wpAnyH_take (i := 8) (v := ?vry6) rfl (by kernel_rfl) (by kernel_rfl) (by kernel_rfl) (fun _ _ _ h => h) (Or.inl ⟨by kernel_rfl, ?yry6⟩) hHry3 ?rry6
      case yry6 => (intro w' hS; (try dsimp only at hS); obtain ⟨s0, s1, s2, s3⟩ := hS; (try go_simp); (try with_reducible rfl))
      try simp only [Act.put, List.getElem_toArray, List.getElem_cons_zero, List.getElem_cons_succ, List.setIfInBounds_toArray, List.set_cons_zero, List.set_cons_succ]
      refine wpAnyH_take (i := 9) (v := ?vry7) rfl (by kernel_rfl) (by kernel_rfl) (by kernel_rfl) (fun _ _ _ h => h) (Or.inl ⟨by kernel_rfl, ?yry7⟩) hHry3 ?rry7
      case yry7 => (intro w' hS; (try dsimp only at hS); obtain ⟨s0, s1, s2, s3⟩ := hS; (try go_simp); (try with_reducible rfl))
      try simp only [Act.put, List.getElem_toArray, List.getElem_cons_zero, List.getElem_cons_succ, List.setIfInBounds_toArray, List.set_cons_zero, List.set_cons_succ]
      refine wpAnyH_ready (rs := [10]) (by kernel_rfl) (by simp) ?_
      refine AllReadyH.cons rfl (fun K hK => ?_) AllReadyH.nil
      go_simp
      refine (impl_StoreOk_ok HPC.out.1 A4 D4 c4 d4 _ (ht2.out _ ryb3).fl (ht2.out _ ryb3).dk).mono ?_
      rintro e ryu4 ⟨rfl, hc⟩
      have ryb4 := ryb3.trans (hc.mono ryb3.size)
      replace hL11 := hL11.below hc (Nat.le_refl _)
      replace hL12 := hL12.below hc (Nat.le_refl _)
      clear hc
      go_wp2_with fail
      refine hK.out _ _ (⟨(hs2.out _ ryb4).x0, (hs2.out _ ryb4).x1, (ht2.out _ ryb4).x0, (ht2.out _ ryb4).x1⟩) (fun hHry4 => ?_)
      clear hK K
      try simp only [Act.put, List.getElem_toArray, List.getElem_cons_zero, List.getElem_cons_succ, List.setIfInBounds_toArray, List.set_cons_zero, List.set_cons_succ]
      refine wpAnyH_take (i := 11) (v := ?vry8) rfl (by kernel_rfl) (by kernel_rfl) (by kernel_rfl) (fun _ _ _ h => h) (Or.inl ⟨by kernel_rfl, ?yry8⟩) hHry4 ?rry8
      case yry8 => (intro w' hS; (try dsimp only at hS); obtain ⟨s0, s1, s2, s3⟩ := hS; (try go_simp); (try with_reducible rfl))
      try simp only [Act.put, List.getElem_toArray, List.getElem_cons_zero, List.getElem_cons_succ, List.setIfInBounds_toArray, List.set_cons_zero, List.set_cons_succ]
      refine wpAnyH_take (i := 12) (v := ?vry9) rfl (by kernel_rfl) (by kernel_rfl) (by kernel_rfl) (fun _ _ _ h => h) (Or.inl ⟨by kernel_rfl, ?yry9⟩) hHry4 ?rry9
      case yry9 => (intro w' hS; (try dsimp only at hS); obtain ⟨s0, s1, s2, s3⟩ := hS; (try go_simp); (try with_reducible rfl))
      try simp only [Act.put, List.getElem_toArray, List.getElem_cons_zero, List.getElem_cons_succ, List.setIfInBounds_toArray, List.set_cons_zero, List.set_cons_succ]
      refine wpAnyH_done (by kernel_rfl) ?_ _
      have hBf := hvd2.trans (ryb4.mono (by have h := hvd2.size; exact h))
      go_wp2
      go_ret
      exact ⟨rfl, hBf⟩
end Go.Proofs.Ytobjanikfbkplaa
