/- Walks: a law over steps: FnFill. -/
import Derived.Test.YtbekihiiildgmaaY9
namespace Go.Proofs.Ytbekihiiildgmaa
set_option linter.unusedVariables false
set_option linter.unusedSimpArgs false
open Go.RowKit Go.Maps
set_option maxHeartbeats 400000
set_option maxHeartbeats 8000000 in
set_option maxRecDepth 100000 in
theorem law_FnFill {w : World} (A : Option Addr) (bs : List Nat) (c : Nat) (hc : Code w A bs c) (A' : Option Addr) (bs' : List Nat) (c' : Nat) (hc' : Code w A' bs' c') :
    Calls Try.prog 12 #[.slice A bs.length c, .slice A' bs'.length c'] w fun e w' => e = .returned (.bool true) ∧ Below w.heap.size w w' := by
  by_cases hlen : (1048576 : Int) < bs.length
  · go_enter Try.func12, Try.ntmps12
    go_wp2
    go_ret
    exact ⟨rfl, Below.refl _ _⟩
  by_cases hlen' : (1048576 : Int) < bs'.length
  · go_enter Try.func12, Try.ntmps12
    go_wp2
    go_ret
    exact ⟨rfl, Below.refl _ _⟩
  go_enter Try.func12, Try.ntmps12
  go_wp2_with fail
  refine (spec_DrawStepsFill A bs c _ hc).mono ?_
  rintro e w1 ⟨A1, D1, c1, d1, s, a, rfl, ha, hsm, hO, hB1⟩
  have hs1 := hB1.size
  have HSM := Lib.hid hsm
  have HA := Lib.hid ha
  clear hsm ha
  have hHbx := Held.new w1 (c := c1) (d := d1) hO.ofl.fl hO.disk rfl rfl
  have hBW1 := hB1.alloc hB1.size (.cells #[.slice A1 s.flash.length c1, .slice D1 s.disk.length d1] 26)
  have hzW1 : (w1.alloc (.cells #[.slice A1 s.flash.length c1, .slice D1 s.disk.length d1] 26)).heap.size = w1.heap.size + 1 := by simp
  obtain ⟨W1, hEW1⟩ : ∃ W, w1.alloc (.cells #[.slice A1 s.flash.length c1, .slice D1 s.disk.length d1] 26) = W := ⟨_, rfl⟩
  obtain ⟨bx, hEbx⟩ : ∃ b, w1.heap.size = b := ⟨_, rfl⟩
  rw [hEW1] at hHbx hBW1 hzW1
  rw [hEbx] at hHbx hzW1
  have x0 := hHbx.x0
  have x1 := hHbx.x1
  clear hB1
  clear hO
  obtain ⟨xs, hxs⟩ : ∃ xs, okSteps s (fill s a) = xs := ⟨_, rfl⟩
  have HXS := Lib.hid hxs
  clear hxs
  go_wp2_with fail
  refine (impl_StepsFill_x HXS.out A1 D1 _ _ c1 d1 _ hHbx.hn hHbx.hm hHbx.fl hHbx.dk).mono ?_
  rintro e w2 ⟨V, vc, rfl, hX, _, hxc, hb⟩
  have hs2 := hb.size
  have hB2 := hBW1.trans (hb.mono hBW1.size)
  replace hHbx := hHbx.below hb (Nat.le_refl _)
  replace x0 := hHbx.x0
  replace x1 := hHbx.x1
  clear hb hBW1
  go_wp2_with fail
  refine (spec_StepsFill_x HXS.out A1 D1 _ _ c1 d1 _ hHbx.hn hHbx.hm (small_fl HSM.out) hHbx.fl hHbx.dk).mono ?_
  rintro e w3 ⟨V3, vc3, rfl, _, _, _, hb⟩
  have hs3 := hb.size
  have hB3 := hB2.trans (hb.mono hB2.size)
  replace hHbx := hHbx.below hb (Nat.le_refl _)
  replace x0 := hHbx.x0
  replace x1 := hHbx.x1
  replace hX := hX.below hb (Nat.le_refl _)
  clear hb hB2
  have hself : ((xs.length : Int) != (xs.length : Int)) = false := by simp
  have hz0 : ((([] : List Sp).length : Int) == 0) = true := rfl
  go_wp2_with fail
  refine (spec_StoreOk s A1 D1 _ _ c1 d1 _ hHbx.hn hHbx.hm (small_fl HSM.out) hHbx.fl hHbx.dk).mono ?_
  rintro e w4 ⟨rfl, hb⟩
  have hs4 := hb.size
  have hB4 := hB3.trans (hb.mono hB3.size)
  replace hHbx := hHbx.below hb (Nat.le_refl _)
  replace x0 := hHbx.x0
  replace x1 := hHbx.x1
  replace hX := hX.below hb (Nat.le_refl _)
  clear hb hB3
  by_cases hok : storeOk s = true
  · have HOK0 := Lib.hid (storeOk_iff.1 hok)
    rw [hok]
    clear hok
    obtain ⟨⟨r1, r2, r3, r4⟩, has, hfl⟩ : ∃ r b, findLast s.flash a = (r, b) := ⟨_, _, rfl⟩
    have HFL := Lib.hid hfl
    clear hfl
    go_wp2_with fail
    refine (impl_FindLast_r HFL.out A1 _ c1 _ hHbx.hn hHbx.fl).mono ?_
    rintro e w5 ⟨rfl, hb⟩
    have hs5 := hb.size
    have hB5 := hB4.trans (hb.mono hB4.size)
    replace hHbx := hHbx.below hb (Nat.le_refl _)
    replace x0 := hHbx.x0
    replace x1 := hHbx.x1
    replace hX := hX.below hb (Nat.le_refl _)
    clear hb hB4
    have hbb : Below w5.heap.size w5 (w5.alloc (.cells #[.int .i64 r1, .int .i64 r2, .int .i64 r3, .int .i64 r4] 45)) := by (repeat (first | (with_reducible exact Below.refl _ _) | (with_reducible assumption) | (refine Below.setCell ?_ (by first | omega | exact hB.size | exact hb.size | (have h := hB.size; simp; omega) | (have h := hb.size; simp; omega) | (simp; omega) | simp) _) | (refine Below.alloc ?_ (by first | omega | exact hB.size | exact hb.size | (have h := hB.size; simp; omega) | (have h := hb.size; simp; omega) | (simp; omega) | simp) _) | (refine Below.drew ?_)))
    have gq : (w5.alloc (.cells #[.int .i64 r1, .int .i64 r2, .int .i64 r3, .int .i64 r4] 45)).cell? ⟨w5.heap.size, 0, none⟩ = some (.int .i64 r1) := by simp
    replace hHbx := hHbx.below hbb (Nat.le_refl _)
    replace hX := hX.below hbb (Nat.le_refl _)
    have hBWr := hB5.trans (hbb.mono hB5.size)
    have hzWr : (w5.alloc (.cells #[.int .i64 r1, .int .i64 r2, .int .i64 r3, .int .i64 r4] 45)).heap.size = w5.heap.size + 1 := by simp
    obtain ⟨Wr, hEWr⟩ : ∃ W, w5.alloc (.cells #[.int .i64 r1, .int .i64 r2, .int .i64 r3, .int .i64 r4] 45) = W := ⟨_, rfl⟩
    obtain ⟨bq, hEbq⟩ : ∃ b, w5.heap.size = b := ⟨_, rfl⟩
    rw [hEWr] at gq hBWr hzWr hHbx hX
    rw [hEbq] at gq hzWr
    replace x0 := hHbx.x0
    replace x1 := hHbx.x1
    clear hbb hB5
    clear gq
    by_cases hne : xs = []
    · subst hne
      cases has
      · have hw0 : wr s.flash 1 a 1 = [] := by
          by_cases hw : wr s.flash 1 a 1 = []
          · exact hw
          · have hx : fill s a = [] := by have := HXS.out; unfold okSteps at this; rwa [if_pos (storeOk_iff.2 HOK0.out)] at this
            exact fill_none HOK0.out (put_addr hw).1 hx (by rw [HFL.out])
        have HW := Lib.hid (show okSteps s (wr s.flash 1 a 1) = [] by rw [hw0]; unfold okSteps; split <;> rfl)
        clear hw0
        go_wp2_with fail
        refine (impl_StepsPut_x HW.out A1 D1 _ _ c1 d1 _ hHbx.hn hHbx.hm hHbx.fl hHbx.dk).mono ?_
        rintro e w6 ⟨V6, vc6, rfl, _, _, _, hb⟩
        have hs6 := hb.size
        have hB6 := hBWr.trans (hb.mono hBWr.size)
        replace hHbx := hHbx.below hb (Nat.le_refl _)
        replace x0 := hHbx.x0
        replace x1 := hHbx.x1
        clear hb hBWr
        go_wp2
        go_ret
        exact ⟨ret_bool (by simp), hB6⟩
      · go_wp2
        go_ret
        exact ⟨rfl, hBWr⟩
    · have hpos : ((xs.length : Int) == 0) = false := by rw [beq_eq_false_iff_ne]; have := List.length_pos_iff.2 hne; omega
      obtain ⟨hok, hw⟩ := okSteps_okay (by rw [HXS.out]; exact hne)
      have HX := Lib.hid (HXS.out.symm.trans hw)
      have HOK := Lib.hid hok
      have HNE : Hid (fill s a ≠ []) := by rw [Hid, ← HX.out]; exact hne
      have HTA : Hid (∀ cut : Int, 0 ≤ cut → ∀ torn, toR s xs cut torn = (doTo s xs cut torn, true)) := by rw [Hid, HX.out]; exact fun cut hc torn => (by have := toR_steps HOK.out ⟨3, a, 0, cut, torn⟩ hc torn; rw [ev_fill] at this; exact this)
      have hxl : xs.length ≤ 8 := by rw [HX.out]; have := stepsOf_len HOK.out.fine ⟨3, a, 0, 0, false⟩; rw [ev_fill] at this; exact this
      have HL4 : Hid (s.flash.length = 4) := flashOk_len hok.flash
      have HL6 : Hid (s.disk.length = 6) := hok.len
      rw [HL4.out, HL6.out] at hHbx
      replace x0 := hHbx.x0
      replace x1 := hHbx.x1
      clear hok hw hne
      have hpz : ((xs.length : Int) + 1 = 0) = False := eq_false (by omega)
      obtain ⟨q, hq⟩ : ∃ q : Nat, bs'.length % (xs.length + 1) = q := ⟨_, rfl⟩
      have hql : q < xs.length + 1 := by have := Nat.mod_lt bs'.length (show 0 < xs.length + 1 by omega); omega
      have r1 : Int.tmod (bs'.length : Int) (((xs.length : Int) + 1)) = (q : Int) := by rw [Int.tmod_eq_emod_of_nonneg (by omega), ← hq]; rfl
      have r2 : (bs'.length : Int) % (((xs.length : Int) + 1)) = (q : Int) := by rw [← hq]; rfl
      clear hq
      generalize htt : ((bs'.length : Int) % 2 == 0) = tt at *
      have htt2 : (Int.tmod (bs'.length : Int) 2 == 0) = tt := by rw [Int.tmod_eq_emod_of_nonneg (by omega)]; exact htt
      have e0 : IntKind.i64.wrap ((xs.length : Int) + 1) = (xs.length : Int) + 1 := IntWalk.i64_in _ (by omega)
      obtain ⟨t, htd⟩ : ∃ t, doTo s xs (q : Int) tt = t := ⟨_, rfl⟩
      have HTR : Hid (toR s xs (q : Int) tt = (t, true)) := by rw [Hid, HTA.out _ (by omega), htd]
      have HPC : Hid (Okay t ∧ allV t = allV s) := by rw [Hid, ← htd, HX.out]; exact fill_cut HOK.out HNE.out (by omega) tt
      obtain ⟨u, hud⟩ : ∃ u, doTo s xs (xs.length : Int) false = u := ⟨_, rfl⟩
      have HTU : Hid (toR s xs (xs.length : Int) false = (u, true)) := by rw [Hid, HTA.out _ (by omega), hud]
      have HPU : Hid (Okay u ∧ allV u = allV s) := by rw [Hid, ← hud, HX.out]; exact fill_cut HOK.out HNE.out (by omega) false
      have hfa : findLast u.flash a = (⟨2, next s.flash, a, readV s a⟩, true) ∧ (findLast s.flash a).2 = false := by rw [← hud, HX.out]; exact fill_all HOK.out HNE.out (by omega) false
      have HFU := Lib.hid hfa.1
      have hhas : has = false := by have := hfa.2; rw [HFL.out] at this; exact this
      subst hhas
      clear htd hud hfa HTA HNE
      have hvd : Below w.heap.size w Wr.drew := hBWr.drew
      have hs := Lib.hid (fun X (h : Below Wr.drew.heap.size Wr.drew X) => hHbx.drew.below h (Nat.le_refl _))
      have hvb : Below Wr.drew.heap.size Wr.drew Wr.drew := Below.refl _ _
      have hXx := Lib.hid (fun X (h : Below Wr.drew.heap.size Wr.drew X) => hX.drew.below h (Nat.le_refl _))
      clear hHbx hX hBWr hzWr
      go_wp2
      refine wp_region_held_drew (S := fun X => X.cell? ⟨bx, 0, none⟩ = some (.slice A1 4 c1) ∧ X.cell? ⟨bx, 1, none⟩ = some (.slice D1 6 d1)) (by kernel_rfl) ⟨(hs.out _ hvb).x0, (hs.out _ hvb).x1⟩ (fun hHeld0 => ?_)
      refine wpAnyH_take (i := 0) (v := ?vr1) rfl (by kernel_rfl) (by kernel_rfl) (by kernel_rfl) (fun _ _ _ h => h) (Or.inl ⟨by kernel_rfl, ?yr1⟩) hHeld0 ?rr1
      case yr1 => (intro w' hS; (try dsimp only at hS); obtain ⟨s0, s1⟩ := hS; (try go_simp); (try with_reducible rfl))
      try simp only [Act.put, jA, jB, jC, jD, jE, jF]
      refine wpAnyH_take (i := 1) (v := ?vr2) rfl (by kernel_rfl) (by kernel_rfl) (by kernel_rfl) (fun _ _ _ h => h) (Or.inl ⟨by kernel_rfl, ?yr2⟩) hHeld0 ?rr2
      case yr2 => (intro w' hS; (try dsimp only at hS); obtain ⟨s0, s1⟩ := hS; (try go_simp); (try with_reducible rfl))
      try simp only [Act.put, jA, jB, jC, jD, jE, jF]
      refine wpAnyH_take (i := 2) (v := ?vr3) rfl (by kernel_rfl) (by kernel_rfl) (by kernel_rfl) (fun _ _ _ h => h) (Or.inl ⟨by kernel_rfl, ?yr3⟩) hHeld0 ?rr3
      case yr3 => (intro w' hS; (try dsimp only at hS); obtain ⟨s0, s1⟩ := hS; (try go_simp); (try with_reducible rfl))
      try simp only [Act.put, jA, jB, jC, jD, jE, jF]
      refine wpAnyH_take (i := 3) (v := ?vr4) rfl (by kernel_rfl) (by kernel_rfl) (by kernel_rfl) (fun _ _ _ h => h) (Or.inl ⟨by kernel_rfl, ?yr4⟩) hHeld0 ?rr4
      case yr4 => (intro w' hS; (try dsimp only at hS); obtain ⟨s0, s1⟩ := hS; (try go_simp); (try with_reducible rfl))
      try simp only [Act.put, jA, jB, jC, jD, jE, jF]
      refine wpAnyH_take (i := 4) (v := ?vr5) rfl (by kernel_rfl) (by kernel_rfl) (by kernel_rfl) (fun _ _ _ h => h) (Or.inl ⟨by kernel_rfl, ?yr5⟩) hHeld0 ?rr5
      case yr5 => (intro w' hS; (try dsimp only at hS); obtain ⟨s0, s1⟩ := hS; (try go_simp); (try with_reducible rfl))
      try simp only [Act.put, jA, jB, jC, jD, jE, jF]
      refine wpAnyH_take (i := 5) (v := ?vr6) rfl (by kernel_rfl) (by kernel_rfl) (by kernel_rfl) (fun _ _ _ h => h) (Or.inl ⟨by kernel_rfl, ?yr6⟩) hHeld0 ?rr6
      case yr6 => (intro w' hS; (try dsimp only at hS); obtain ⟨s0, s1⟩ := hS; (try go_simp); (try with_reducible rfl))
      try simp only [Act.put, jA, jB, jC, jD, jE, jF]
      refine wpAnyH_take (i := 6) (v := ?vr7) rfl (by kernel_rfl) (by kernel_rfl) (by kernel_rfl) (fun _ _ _ h => h) (Or.inl ⟨by kernel_rfl, ?yr7⟩) hHeld0 ?rr7
      case yr7 => (intro w' hS; (try dsimp only at hS); obtain ⟨s0, s1⟩ := hS; (try go_simp); (try with_reducible rfl))
      try simp only [Act.put, jA, jB, jC, jD, jE, jF]
      refine wpAnyH_take (i := 7) (v := ?vr8) rfl (by kernel_rfl) (by kernel_rfl) (by kernel_rfl) (fun _ _ _ h => h) (Or.inl ⟨by kernel_rfl, ?yr8⟩) hHeld0 ?rr8
      case yr8 => (intro w' hS; (try dsimp only at hS); obtain ⟨s0, s1⟩ := hS; (try go_simp); (try with_reducible rfl))
      try simp only [Act.put, jA, jB, jC, jD, jE, jF]
      refine wpAnyH_take (i := 8) (v := ?vr9) rfl (by kernel_rfl) (by kernel_rfl) (by kernel_rfl) (fun _ _ _ h => h) (Or.inl ⟨by kernel_rfl, ?yr9⟩) hHeld0 ?rr9
      case yr9 => (intro w' hS; (try dsimp only at hS); obtain ⟨s0, s1⟩ := hS; (try go_simp); (try with_reducible rfl))
      try simp only [Act.put, jA, jB, jC, jD, jE, jF]
      refine wpAnyH_take (i := 9) (v := ?vr10) rfl (by kernel_rfl) (by kernel_rfl) (by kernel_rfl) (fun _ _ _ h => h) (Or.inl ⟨by kernel_rfl, ?yr10⟩) hHeld0 ?rr10
      case yr10 => (intro w' hS; (try dsimp only at hS); obtain ⟨s0, s1⟩ := hS; (try go_simp); (try with_reducible rfl))
      try simp only [Act.put, jA, jB, jC, jD, jE, jF]
      refine wpAnyH_take (i := 10) (v := ?vr11) rfl (by kernel_rfl) (by kernel_rfl) (by kernel_rfl) (fun _ _ _ h => h) (Or.inl ⟨by kernel_rfl, ?yr11⟩) hHeld0 ?rr11
      case yr11 => (intro w' hS; (try dsimp only at hS); obtain ⟨s0, s1⟩ := hS; (try go_simp); (try with_reducible rfl))
      try simp only [Act.put, jA, jB, jC, jD, jE, jF]
      refine wpAnyH_ready (rs := [11, 15]) (by kernel_rfl) (by simp) ?_
      refine AllReadyH.cons rfl (fun K hK => ?_) (AllReadyH.cons rfl (fun K hK => ?_) AllReadyH.nil)
      · go_simp
        refine (impl_StepsTo_t HTR.out HPC.out.1.fine (by omega) A1 D1 V 4 6 c1 d1 vc _ _ (hs.out _ hvb).hn (hs.out _ hvb).hm rfl (hs.out _ hvb).fl (hs.out _ hvb).dk (hXx.out _ hvb)).mono ?_
        rintro e w4 ⟨A4, c4, D4, d4, rfl, hF4, hD4, hl4, hc⟩
        have hb4 := hvb.trans (hc.mono hvb.size)
        have hz4 := hc.size
        go_wp2_with fail
        refine hK.out _ _ (⟨(hs.out _ hb4).x0, (hs.out _ hb4).x1⟩) (fun hHr1 => ?_)
        clear hK K
        try simp only [Act.put, jA, jB, jC, jD, jE, jF]
        refine wpAnyH_take (i := 12) (v := ?vr12) rfl (by kernel_rfl) (by kernel_rfl) (by kernel_rfl) (fun _ _ _ h => h) (Or.inl ⟨by kernel_rfl, ?yr12⟩) hHr1 ?rr12
        case yr12 => (intro w' hS; (try dsimp only at hS); obtain ⟨s0, s1⟩ := hS; (try go_simp); (try with_reducible rfl))
        try simp only [Act.put, jA, jB, jC, jD, jE, jF]
        refine wpAnyH_take (i := 13) (v := ?vr13) rfl (by kernel_rfl) (by kernel_rfl) (by kernel_rfl) (fun _ _ _ h => h) (Or.inl ⟨by kernel_rfl, ?yr13⟩) hHr1 ?rr13
        case yr13 => (intro w' hS; (try dsimp only at hS); obtain ⟨s0, s1⟩ := hS; (try go_simp); (try with_reducible rfl))
        try simp only [Act.put, jA, jB, jC, jD, jE, jF]
        refine wpAnyH_take (i := 14) (v := ?vr14) rfl (by kernel_rfl) (by kernel_rfl) (by kernel_rfl) (fun _ _ _ h => h) (Or.inl ⟨by kernel_rfl, ?yr14⟩) hHr1 ?rr14
        case yr14 => (intro w' hS; (try dsimp only at hS); obtain ⟨s0, s1⟩ := hS; (try go_simp); (try with_reducible rfl))
        try simp only [Act.put, jA, jB, jC, jD, jE, jF]
        refine wpAnyH_ready (rs := [15]) (by kernel_rfl) (by simp) ?_
        refine AllReadyH.cons rfl (fun K hK => ?_) AllReadyH.nil
        go_simp
        obtain ⟨bz, hbz⟩ : ∃ b, w4.heap.size = b := ⟨_, rfl⟩
        have hbz' : w4.heap.size = bz := hbz
        have hq := Row.new w4 #[.slice none 0 0, .slice none 0 0] 26
        have hb3 := hb4.alloc hb4.size (.cells #[.slice none 0 0, .slice none 0 0] 26)
        rw [hbz'] at hq
        (try simp only [hbz])
        obtain ⟨z0, z2⟩ := hq.at0 (j := 0) rfl
        obtain ⟨z1, z3⟩ := hq.at0 (j := 1) rfl
        have hzs : (w4.alloc (.cells #[.slice none 0 0, .slice none 0 0] 26)).heap.size = bz + 1 := by rw [← hbz']; simp
        refine hK.out _ _ (⟨(hs.out _ hb3).x0, (hs.out _ hb3).x1⟩) (fun hHr2 => ?_)
        clear hK K
        try simp only [Act.put, jA, jB, jC, jD, jE, jF]
        refine wpAnyH_ready (rs := [16]) (by kernel_rfl) (by simp) ?_
        refine AllReadyH.cons rfl (fun K hK => ?_) AllReadyH.nil
        go_simp
        have hb8 := hb4.alloc hb4.size (.cells #[.slice A4 4 c4, .slice D4 6 d4] 26)
        have hq8 := Row.new w4 #[.slice A4 4 c4, .slice D4 6 d4] 26
        rw [hbz] at hq8
        obtain ⟨r0, _⟩ := hq8.at0 (j := 0) rfl
        obtain ⟨r1, _⟩ := hq8.at0 (j := 1) rfl
        have hF6 := hF4.fl.alloc (.cells #[.slice A4 4 c4, .slice D4 6 d4] 26)
        have hD6 := hD4.alloc (.cells #[.slice A4 4 c4, .slice D4 6 d4] 26)
        refine hK.out _ _ (⟨(hs.out _ hb8).x0, (hs.out _ hb8).x1⟩) (fun hHr3 => ?_)
        clear hK K
        try simp only [Act.put, jA, jB, jC, jD, jE, jF]
        refine wpAnyH_take (i := 17) (v := ?vr15) rfl (by kernel_rfl) (by kernel_rfl) (by kernel_rfl) (fun _ _ _ h => h) (Or.inl ⟨by kernel_rfl, ?yr15⟩) hHr3 ?rr15
        case yr15 => (intro w' hS; (try dsimp only at hS); obtain ⟨s0, s1⟩ := hS; (try go_simp); (try with_reducible rfl))
        try simp only [Act.put, jA, jB, jC, jD, jE, jF]
        refine wpAnyH_done (by kernel_rfl) ?_ _
        have hHs := hs.out _ hb8
        have hHt : Held (w4.alloc (.cells #[.slice A4 4 c4, .slice D4 6 d4] 26)) bz A4 D4 4 c4 6 d4 t := ⟨hF6, hD6, r0, r1, (flashOk_len HPC.out.1.flash).symm, HPC.out.1.len.symm⟩
        have hB5 := hvd.trans (hb8.mono (by have h := hvd.size; exact h))
        have hX5 := hXx.out _ hb8
        obtain ⟨W5, hW5⟩ : ∃ W, (w4.alloc (.cells #[.slice A4 4 c4, .slice D4 6 d4] 26)) = W := ⟨_, rfl⟩
        rw [hW5] at hHs hHt hB5 hX5
        (try rw [hW5])
        clear hW5 hb8 hb4 r0 r1 hF6 hD6 hF4 hD4 hl4
        clear hs hXx hvd hvb
        replace x0 := hHs.x0
        replace x1 := hHs.x1
        have t0 := hHt.x0
        have t1 := hHt.x1
        go_wp2_with fail
        refine (impl_StepsTo_t HTU.out HPU.out.1.fine (by omega) A1 D1 V 4 6 c1 d1 vc _ _ hHs.hn hHs.hm rfl hHs.fl hHs.dk hX5).mono ?_
        rintro e w6 ⟨A6, c6, D6, d6, rfl, hF6, hD6, _, hb⟩
        have hs6 := hb.size
        have hB6 := hB5.trans (hb.mono hB5.size)
        replace hHs := hHs.below hb (Nat.le_refl _)
        replace x0 := hHs.x0
        replace x1 := hHs.x1
        replace hHt := hHt.below hb (Nat.le_refl _)
        replace t0 := hHt.x0
        replace t1 := hHt.x1
        clear hb hB5
        have hHbu := Held.ok HPU.out.1 c6 d6 hF6.fl hD6
        replace hHs := hHs.below ((Below.refl w6.heap.size w6).alloc (Nat.le_refl _) (.cells #[.slice A6 4 c6, .slice D6 6 d6] 26)) (Nat.le_refl _)
        replace hHt := hHt.below ((Below.refl w6.heap.size w6).alloc (Nat.le_refl _) (.cells #[.slice A6 4 c6, .slice D6 6 d6] 26)) (Nat.le_refl _)
        have hBW6 := hB6.alloc hB6.size (.cells #[.slice A6 4 c6, .slice D6 6 d6] 26)
        have hzW6 : (w6.alloc (.cells #[.slice A6 4 c6, .slice D6 6 d6] 26)).heap.size = w6.heap.size + 1 := by simp
        obtain ⟨W6, hEW6⟩ : ∃ W, w6.alloc (.cells #[.slice A6 4 c6, .slice D6 6 d6] 26) = W := ⟨_, rfl⟩
        obtain ⟨bu, hEbu⟩ : ∃ b, w6.heap.size = b := ⟨_, rfl⟩
        rw [hEW6] at hHbu hBW6 hzW6 hHs hHt
        rw [hEbu] at hHbu hzW6
        have u0 := hHbu.x0
        have u1 := hHbu.x1
        replace x0 := hHs.x0
        replace x1 := hHs.x1
        replace t0 := hHt.x0
        replace t1 := hHt.x1
        clear hB6
        clear hF6 hD6
        go_wp2_with fail
        refine (impl_FindLast_r HFU.out A6 4 c6 _ hHbu.hn hHbu.fl).mono ?_
        rintro e w7 ⟨rfl, hb⟩
        have hs7 := hb.size
        have hB7 := hBW6.trans (hb.mono hBW6.size)
        replace hHs := hHs.below hb (Nat.le_refl _)
        replace x0 := hHs.x0
        replace x1 := hHs.x1
        replace hHt := hHt.below hb (Nat.le_refl _)
        replace t0 := hHt.x0
        replace t1 := hHt.x1
        replace hHbu := hHbu.below hb (Nat.le_refl _)
        replace u0 := hHbu.x0
        replace u1 := hHbu.x1
        clear hb hBW6
        have hbb : Below w7.heap.size w7 (w7.alloc (.cells #[.int .i64 2, .int .i64 (next s.flash), .int .i64 a, .int .i64 (readV s a)] 45)) := by (repeat (first | (with_reducible exact Below.refl _ _) | (with_reducible assumption) | (refine Below.setCell ?_ (by first | omega | exact hB.size | exact hb.size | (have h := hB.size; simp; omega) | (have h := hb.size; simp; omega) | (simp; omega) | simp) _) | (refine Below.alloc ?_ (by first | omega | exact hB.size | exact hb.size | (have h := hB.size; simp; omega) | (have h := hb.size; simp; omega) | (simp; omega) | simp) _) | (refine Below.drew ?_)))
        have g0 : (w7.alloc (.cells #[.int .i64 2, .int .i64 (next s.flash), .int .i64 a, .int .i64 (readV s a)] 45)).cell? ⟨w7.heap.size, 0, none⟩ = some (.int .i64 2) := by simp
        replace hHs := hHs.below hbb (Nat.le_refl _)
        replace hHt := hHt.below hbb (Nat.le_refl _)
        replace hHbu := hHbu.below hbb (Nat.le_refl _)
        have hBW7 := hB7.trans (hbb.mono hB7.size)
        have hzW7 : (w7.alloc (.cells #[.int .i64 2, .int .i64 (next s.flash), .int .i64 a, .int .i64 (readV s a)] 45)).heap.size = w7.heap.size + 1 := by simp
        obtain ⟨W7, hEW7⟩ : ∃ W, w7.alloc (.cells #[.int .i64 2, .int .i64 (next s.flash), .int .i64 a, .int .i64 (readV s a)] 45) = W := ⟨_, rfl⟩
        obtain ⟨br, hEbr⟩ : ∃ b, w7.heap.size = b := ⟨_, rfl⟩
        rw [hEW7] at g0 hBW7 hzW7 hHs hHt hHbu
        rw [hEbr] at g0 hzW7
        replace x0 := hHs.x0
        replace x1 := hHs.x1
        replace t0 := hHt.x0
        replace t1 := hHt.x1
        replace u0 := hHbu.x0
        replace u1 := hHbu.x1
        clear hbb hB7
        have hvd : Below w.heap.size w W7.drew := hBW7.drew
        have hs := Lib.hid (fun X (h : Below W7.drew.heap.size W7.drew X) => hHs.drew.below h (Nat.le_refl _))
        have ht := Lib.hid (fun X (h : Below W7.drew.heap.size W7.drew X) => hHt.drew.below h (Nat.le_refl _))
        have hu := Lib.hid (fun X (h : Below W7.drew.heap.size W7.drew X) => hHbu.drew.below h (Nat.le_refl _))
        have hvb : Below W7.drew.heap.size W7.drew W7.drew := Below.refl _ _
        have hg := Lib.hid (fun X (h : Below W7.drew.heap.size W7.drew X) => (h.cell (p := ⟨br, 0, none⟩) (by show br < W7.heap.size; omega)).trans (show W7.drew.cell? _ = _ from g0))
        clear hHs hHt hHbu
        go_wp2
        refine wp_region_held_drew (S := fun X => X.cell? ⟨bx, 0, none⟩ = some (.slice A1 4 c1) ∧ X.cell? ⟨bx, 1, none⟩ = some (.slice D1 6 d1) ∧ X.cell? ⟨bz, 0, none⟩ = some (.slice A4 4 c4) ∧ X.cell? ⟨bz, 1, none⟩ = some (.slice D4 6 d4) ∧ X.cell? ⟨bu, 0, none⟩ = some (.slice A6 4 c6) ∧ X.cell? ⟨bu, 1, none⟩ = some (.slice D6 6 d6) ∧ X.cell? ⟨br, 0, none⟩ = some (.int .i64 2)) (by kernel_rfl) ⟨(hs.out _ hvb).x0, (hs.out _ hvb).x1, (ht.out _ hvb).x0, (ht.out _ hvb).x1, (hu.out _ hvb).x0, (hu.out _ hvb).x1, hg.out _ hvb⟩ (fun hHeld0 => ?_)
        refine wpAnyH_take (i := 0) (v := ?vrx1) rfl (by kernel_rfl) (by kernel_rfl) (by kernel_rfl) (fun _ _ _ h => h) (Or.inl ⟨by kernel_rfl, ?yrx1⟩) hHeld0 ?rrx1
        case yrx1 => (intro w' hS; (try dsimp only at hS); obtain ⟨s0, s1, s2, s3, s4, s5, s6⟩ := hS; (try go_simp); (try with_reducible rfl))
        try simp only [Act.put, jA, jB, jC, jD, jE, jF]
        refine wpAnyH_take (i := 1) (v := ?vrx2) rfl (by kernel_rfl) (by kernel_rfl) (by kernel_rfl) (fun _ _ _ h => h) (Or.inl ⟨by kernel_rfl, ?yrx2⟩) hHeld0 ?rrx2
        case yrx2 => (intro w' hS; (try dsimp only at hS); obtain ⟨s0, s1, s2, s3, s4, s5, s6⟩ := hS; (try go_simp); (try with_reducible rfl))
        try simp only [Act.put, jA, jB, jC, jD, jE, jF]
        refine wpAnyH_take (i := 2) (v := ?vrx3) rfl (by kernel_rfl) (by kernel_rfl) (by kernel_rfl) (fun _ _ _ h => h) (Or.inl ⟨by kernel_rfl, ?yrx3⟩) hHeld0 ?rrx3
        case yrx3 => (intro w' hS; (try dsimp only at hS); obtain ⟨s0, s1, s2, s3, s4, s5, s6⟩ := hS; (try go_simp); (try with_reducible rfl))
        try simp only [Act.put, jA, jB, jC, jD, jE, jF]
        refine wpAnyH_take (i := 3) (v := ?vrx4) rfl (by kernel_rfl) (by kernel_rfl) (by kernel_rfl) (fun _ _ _ h => h) (Or.inl ⟨by kernel_rfl, ?yrx4⟩) hHeld0 ?rrx4
        case yrx4 => (intro w' hS; (try dsimp only at hS); obtain ⟨s0, s1, s2, s3, s4, s5, s6⟩ := hS; (try go_simp); (try with_reducible rfl))
        try simp only [Act.put, jA, jB, jC, jD, jE, jF]
        refine wpAnyH_take (i := 4) (v := ?vrx5) rfl (by kernel_rfl) (by kernel_rfl) (by kernel_rfl) (fun _ _ _ h => h) (Or.inl ⟨by kernel_rfl, ?yrx5⟩) hHeld0 ?rrx5
        case yrx5 => (intro w' hS; (try dsimp only at hS); obtain ⟨s0, s1, s2, s3, s4, s5, s6⟩ := hS; (try go_simp); (try with_reducible rfl))
        try simp only [Act.put, jA, jB, jC, jD, jE, jF]
        refine wpAnyH_take (i := 5) (v := ?vrx6) rfl (by kernel_rfl) (by kernel_rfl) (by kernel_rfl) (fun _ _ _ h => h) (Or.inl ⟨by kernel_rfl, ?yrx6⟩) hHeld0 ?rrx6
        case yrx6 => (intro w' hS; (try dsimp only at hS); obtain ⟨s0, s1, s2, s3, s4, s5, s6⟩ := hS; (try go_simp); (try with_reducible rfl))
        try simp only [Act.put, jA, jB, jC, jD, jE, jF]
        refine wpAnyH_take (i := 6) (v := ?vrx7) rfl (by kernel_rfl) (by kernel_rfl) (by kernel_rfl) (fun _ _ _ h => h) (Or.inl ⟨by kernel_rfl, ?yrx7⟩) hHeld0 ?rrx7
        case yrx7 => (intro w' hS; (try dsimp only at hS); obtain ⟨s0, s1, s2, s3, s4, s5, s6⟩ := hS; (try go_simp); (try with_reducible rfl))
        try simp only [Act.put, jA, jB, jC, jD, jE, jF]
        refine wpAnyH_take (i := 7) (v := ?vrx8) rfl (by kernel_rfl) (by kernel_rfl) (by kernel_rfl) (fun _ _ _ h => h) (Or.inl ⟨by kernel_rfl, ?yrx8⟩) hHeld0 ?rrx8
        case yrx8 => (intro w' hS; (try dsimp only at hS); obtain ⟨s0, s1, s2, s3, s4, s5, s6⟩ := hS; (try go_simp); (try with_reducible rfl))
        try simp only [Act.put, jA, jB, jC, jD, jE, jF]
        refine wpAnyH_take (i := 8) (v := ?vrx9) rfl (by kernel_rfl) (by kernel_rfl) (by kernel_rfl) (fun _ _ _ h => h) (Or.inl ⟨by kernel_rfl, ?yrx9⟩) hHeld0 ?rrx9
        case yrx9 => (intro w' hS; (try dsimp only at hS); obtain ⟨s0, s1, s2, s3, s4, s5, s6⟩ := hS; (try go_simp); (try with_reducible rfl))
        try simp only [Act.put, jA, jB, jC, jD, jE, jF]
        refine wpAnyH_take (i := 9) (v := ?vrx10) rfl (by kernel_rfl) (by kernel_rfl) (by kernel_rfl) (fun _ _ _ h => h) (Or.inl ⟨by kernel_rfl, ?yrx10⟩) hHeld0 ?rrx10
        case yrx10 => (intro w' hS; (try dsimp only at hS); obtain ⟨s0, s1, s2, s3, s4, s5, s6⟩ := hS; (try go_simp); (try with_reducible rfl))
        try simp only [Act.put, jA, jB, jC, jD, jE, jF]
        refine wpAnyH_take (i := 11) (v := ?vrx11) rfl (by kernel_rfl) (by kernel_rfl) (by kernel_rfl) (fun _ _ _ h => h) (Or.inl ⟨by kernel_rfl, ?yrx11⟩) hHeld0 ?rrx11
        case yrx11 => (intro w' hS; (try dsimp only at hS); obtain ⟨s0, s1, s2, s3, s4, s5, s6⟩ := hS; (try go_simp); (try with_reducible rfl))
        try simp only [Act.put, jA, jB, jC, jD, jE, jF]
        refine wpAnyH_ready (rs := [10]) (by kernel_rfl) (by simp) ?_
        refine AllReadyH.cons rfl (fun K hK => ?_) AllReadyH.nil
        go_simp
        refine (impl_StoreAll_ok HPC.out.1 A4 D4 c4 d4 _ (ht.out _ hvb).fl (ht.out _ hvb).dk).mono ?_
        rintro e rxu1 ⟨A11, c11, rfl, hL11, hc⟩
        have rxb1 := hvb.trans (hc.mono hvb.size)
        clear hc
        go_wp2_with fail
        refine hK.out _ _ (⟨(hs.out _ rxb1).x0, (hs.out _ rxb1).x1, (ht.out _ rxb1).x0, (ht.out _ rxb1).x1, (hu.out _ rxb1).x0, (hu.out _ rxb1).x1, hg.out _ rxb1⟩) (fun hHrx1 => ?_)
        clear hK K
        try simp only [Act.put, jA, jB, jC, jD, jE, jF]
        refine wpAnyH_ready (rs := [12]) (by kernel_rfl) (by simp) ?_
        refine AllReadyH.cons rfl (fun K hK => ?_) AllReadyH.nil
        go_simp
        refine (impl_StoreAll_ok HOK.out A1 D1 c1 d1 _ (hs.out _ rxb1).fl (hs.out _ rxb1).dk).mono ?_
        rintro e rxu2 ⟨A12, c12, rfl, hL12, hc⟩
        have rxb2 := rxb1.trans (hc.mono rxb1.size)
        replace hL11 := hL11.below hc (Nat.le_refl _)
        clear hc
        go_wp2_with fail
        refine hK.out _ _ (⟨(hs.out _ rxb2).x0, (hs.out _ rxb2).x1, (ht.out _ rxb2).x0, (ht.out _ rxb2).x1, (hu.out _ rxb2).x0, (hu.out _ rxb2).x1, hg.out _ rxb2⟩) (fun hHrx2 => ?_)
        clear hK K
        try simp only [Act.put, jA, jB, jC, jD, jE, jF]
        refine wpAnyH_ready (rs := [13]) (by kernel_rfl) (by simp) ?_
        refine AllReadyH.cons rfl (fun K hK => ?_) AllReadyH.nil
        go_simp
        refine (laws_lqInts_6 HPC.out.2 rfl A11 A12 c11 c12 _ hL11 hL12).mono ?_
        rintro e rxu3 ⟨rfl, hc⟩
        have rxb3 := rxb2.trans (hc.mono rxb2.size)
        replace hL11 := hL11.below hc (Nat.le_refl _)
        replace hL12 := hL12.below hc (Nat.le_refl _)
        clear hc
        go_wp2_with fail
        refine hK.out _ _ (⟨(hs.out _ rxb3).x0, (hs.out _ rxb3).x1, (ht.out _ rxb3).x0, (ht.out _ rxb3).x1, (hu.out _ rxb3).x0, (hu.out _ rxb3).x1, hg.out _ rxb3⟩) (fun hHrx3 => ?_)
        clear hK K
        try simp only [Act.put, jA, jB, jC, jD, jE, jF]
        refine wpAnyH_take (i := 14) (v := ?vrx12) rfl (by kernel_rfl) (by kernel_rfl) (by kernel_rfl) (fun _ _ _ h => h) (Or.inl ⟨by kernel_rfl, ?yrx12⟩) hHrx3 ?rrx12
        case yrx12 => (intro w' hS; (try dsimp only at hS); obtain ⟨s0, s1, s2, s3, s4, s5, s6⟩ := hS; (try go_simp); (try with_reducible rfl))
        try simp only [Act.put, jA, jB, jC, jD, jE, jF]
        refine wpAnyH_take (i := 15) (v := ?vrx13) rfl (by kernel_rfl) (by kernel_rfl) (by kernel_rfl) (fun _ _ _ h => h) (Or.inl ⟨by kernel_rfl, ?yrx13⟩) hHrx3 ?rrx13
        case yrx13 => (intro w' hS; (try dsimp only at hS); obtain ⟨s0, s1, s2, s3, s4, s5, s6⟩ := hS; (try go_simp); (try with_reducible rfl))
        try simp only [Act.put, jA, jB, jC, jD, jE, jF]
        refine wpAnyH_take (i := 16) (v := ?vrx14) rfl (by kernel_rfl) (by kernel_rfl) (by kernel_rfl) (fun _ _ _ h => h) (Or.inl ⟨by kernel_rfl, ?yrx14⟩) hHrx3 ?rrx14
        case yrx14 => (intro w' hS; (try dsimp only at hS); obtain ⟨s0, s1, s2, s3, s4, s5, s6⟩ := hS; (try go_simp); (try with_reducible rfl))
        try simp only [Act.put, jA, jB, jC, jD, jE, jF]
        refine wpAnyH_ready (rs := [17]) (by kernel_rfl) (by simp) ?_
        refine AllReadyH.cons rfl (fun K hK => ?_) AllReadyH.nil
        go_simp
        refine (impl_StoreOk_ok HPC.out.1 A4 D4 c4 d4 _ (ht.out _ rxb3).fl (ht.out _ rxb3).dk).mono ?_
        rintro e rxu4 ⟨rfl, hc⟩
        have rxb4 := rxb3.trans (hc.mono rxb3.size)
        clear hc
        go_wp2_with fail
        refine hK.out _ _ (⟨(hs.out _ rxb4).x0, (hs.out _ rxb4).x1, (ht.out _ rxb4).x0, (ht.out _ rxb4).x1, (hu.out _ rxb4).x0, (hu.out _ rxb4).x1, hg.out _ rxb4⟩) (fun hHrx4 => ?_)
        clear hK K
        try simp only [Act.put, jA, jB, jC, jD, jE, jF]
        refine wpAnyH_take (i := 18) (v := ?vrx15) rfl (by kernel_rfl) (by kernel_rfl) (by kernel_rfl) (fun _ _ _ h => h) (Or.inl ⟨by kernel_rfl, ?yrx15⟩) hHrx4 ?rrx15
        case yrx15 => (intro w' hS; (try dsimp only at hS); obtain ⟨s0, s1, s2, s3, s4, s5, s6⟩ := hS; (try go_simp); (try with_reducible rfl))
        try simp only [Act.put, jA, jB, jC, jD, jE, jF]
        refine wpAnyH_take (i := 19) (v := ?vrx16) rfl (by kernel_rfl) (by kernel_rfl) (by kernel_rfl) (fun _ _ _ h => h) (Or.inl ⟨by kernel_rfl, ?yrx16⟩) hHrx4 ?rrx16
        case yrx16 => (intro w' hS; (try dsimp only at hS); obtain ⟨s0, s1, s2, s3, s4, s5, s6⟩ := hS; (try go_simp); (try with_reducible rfl))
        try simp only [Act.put, jA, jB, jC, jD, jE, jF]
        refine wpAnyH_take (i := 20) (v := ?vrx17) rfl (by kernel_rfl) (by kernel_rfl) (by kernel_rfl) (fun _ _ _ h => h) (Or.inl ⟨by kernel_rfl, ?yrx17⟩) hHrx4 ?rrx17
        case yrx17 => (intro w' hS; (try dsimp only at hS); obtain ⟨s0, s1, s2, s3, s4, s5, s6⟩ := hS; (try go_simp); (try with_reducible rfl))
        try simp only [Act.put, jA, jB, jC, jD, jE, jF]
        refine wpAnyH_take (i := 21) (v := ?vrx18) rfl (by kernel_rfl) (by kernel_rfl) (by kernel_rfl) (fun _ _ _ h => h) (Or.inl ⟨by kernel_rfl, ?yrx18⟩) hHrx4 ?rrx18
        case yrx18 => (intro w' hS; (try dsimp only at hS); obtain ⟨s0, s1, s2, s3, s4, s5, s6⟩ := hS; (try go_simp); (try with_reducible rfl))
        try simp only [Act.put, jA, jB, jC, jD, jE, jF]
        refine wpAnyH_take (i := 22) (v := ?vrx19) rfl (by kernel_rfl) (by kernel_rfl) (by kernel_rfl) (fun _ _ _ h => h) (Or.inl ⟨by kernel_rfl, ?yrx19⟩) hHrx4 ?rrx19
        case yrx19 => (intro w' hS; (try dsimp only at hS); obtain ⟨s0, s1, s2, s3, s4, s5, s6⟩ := hS; (try go_simp); (try with_reducible rfl))
        try simp only [Act.put, jA, jB, jC, jD, jE, jF]
        refine wpAnyH_take (i := 23) (v := ?vrx20) rfl (by kernel_rfl) (by kernel_rfl) (by kernel_rfl) (fun _ _ _ h => h) (Or.inl ⟨by kernel_rfl, ?yrx20⟩) hHrx4 ?rrx20
        case yrx20 => (intro w' hS; (try dsimp only at hS); obtain ⟨s0, s1, s2, s3, s4, s5, s6⟩ := hS; (try go_simp); (try with_reducible rfl))
        try simp only [Act.put, jA, jB, jC, jD, jE, jF]
        refine wpAnyH_take (i := 24) (v := ?vrx21) rfl (by kernel_rfl) (by kernel_rfl) (by kernel_rfl) (fun _ _ _ h => h) (Or.inl ⟨by kernel_rfl, ?yrx21⟩) hHrx4 ?rrx21
        case yrx21 => (intro w' hS; (try dsimp only at hS); obtain ⟨s0, s1, s2, s3, s4, s5, s6⟩ := hS; (try go_simp); (try with_reducible rfl))
        try simp only [Act.put, jA, jB, jC, jD, jE, jF]
        refine wpAnyH_take (i := 25) (v := ?vrx22) rfl (by kernel_rfl) (by kernel_rfl) (by kernel_rfl) (fun _ _ _ h => h) (Or.inl ⟨by kernel_rfl, ?yrx22⟩) hHrx4 ?rrx22
        case yrx22 => (intro w' hS; (try dsimp only at hS); obtain ⟨s0, s1, s2, s3, s4, s5, s6⟩ := hS; (try go_simp); (try with_reducible rfl))
        try simp only [Act.put, jA, jB, jC, jD, jE, jF]
        refine wpAnyH_take (i := 26) (v := ?vrx23) rfl (by kernel_rfl) (by kernel_rfl) (by kernel_rfl) (fun _ _ _ h => h) (Or.inl ⟨by kernel_rfl, ?yrx23⟩) hHrx4 ?rrx23
        case yrx23 => (intro w' hS; (try dsimp only at hS); obtain ⟨s0, s1, s2, s3, s4, s5, s6⟩ := hS; (try go_simp); (try with_reducible rfl))
        try simp only [Act.put, jA, jB, jC, jD, jE, jF]
        refine wpAnyH_take (i := 27) (v := ?vrx24) rfl (by kernel_rfl) (by kernel_rfl) (by kernel_rfl) (fun _ _ _ h => h) (Or.inl ⟨by kernel_rfl, ?yrx24⟩) hHrx4 ?rrx24
        case yrx24 => (intro w' hS; (try dsimp only at hS); obtain ⟨s0, s1, s2, s3, s4, s5, s6⟩ := hS; (try go_simp); (try with_reducible rfl))
        try simp only [Act.put, jA, jB, jC, jD, jE, jF]
        refine wpAnyH_take (i := 28) (v := ?vrx25) rfl (by kernel_rfl) (by kernel_rfl) (by kernel_rfl) (fun _ _ _ h => h) (Or.inl ⟨by kernel_rfl, ?yrx25⟩) hHrx4 ?rrx25
        case yrx25 => (intro w' hS; (try dsimp only at hS); obtain ⟨s0, s1, s2, s3, s4, s5, s6⟩ := hS; (try go_simp); (try with_reducible rfl))
        try simp only [Act.put, jA, jB, jC, jD, jE, jF]
        refine wpAnyH_take (i := 30) (v := ?vrx26) rfl (by kernel_rfl) (by kernel_rfl) (by kernel_rfl) (fun _ _ _ h => h) (Or.inl ⟨by kernel_rfl, ?yrx26⟩) hHrx4 ?rrx26
        case yrx26 => (intro w' hS; (try dsimp only at hS); obtain ⟨s0, s1, s2, s3, s4, s5, s6⟩ := hS; (try go_simp); (try with_reducible rfl))
        try simp only [Act.put, jA, jB, jC, jD, jE, jF]
        refine wpAnyH_ready (rs := [29]) (by kernel_rfl) (by simp) ?_
        refine AllReadyH.cons rfl (fun K hK => ?_) AllReadyH.nil
        go_simp
        refine (impl_StoreAll_ok HPU.out.1 A6 D6 c6 d6 _ (hu.out _ rxb4).fl (hu.out _ rxb4).dk).mono ?_
        rintro e rxu5 ⟨A13, c13, rfl, hL13, hc⟩
        have rxb5 := rxb4.trans (hc.mono rxb4.size)
        clear hc
        go_wp2_with fail
        refine hK.out _ _ (⟨(hs.out _ rxb5).x0, (hs.out _ rxb5).x1, (ht.out _ rxb5).x0, (ht.out _ rxb5).x1, (hu.out _ rxb5).x0, (hu.out _ rxb5).x1, hg.out _ rxb5⟩) (fun hHrx5 => ?_)
        clear hK K
        try simp only [Act.put, jA, jB, jC, jD, jE, jF]
        refine wpAnyH_ready (rs := [31]) (by kernel_rfl) (by simp) ?_
        refine AllReadyH.cons rfl (fun K hK => ?_) AllReadyH.nil
        go_simp
        refine (impl_StoreAll_ok HOK.out A1 D1 c1 d1 _ (hs.out _ rxb5).fl (hs.out _ rxb5).dk).mono ?_
        rintro e rxu6 ⟨A14, c14, rfl, hL14, hc⟩
        have rxb6 := rxb5.trans (hc.mono rxb5.size)
        replace hL13 := hL13.below hc (Nat.le_refl _)
        clear hc
        go_wp2_with fail
        refine hK.out _ _ (⟨(hs.out _ rxb6).x0, (hs.out _ rxb6).x1, (ht.out _ rxb6).x0, (ht.out _ rxb6).x1, (hu.out _ rxb6).x0, (hu.out _ rxb6).x1, hg.out _ rxb6⟩) (fun hHrx6 => ?_)
        clear hK K
        try simp only [Act.put, jA, jB, jC, jD, jE, jF]
        refine wpAnyH_ready (rs := [32]) (by kernel_rfl) (by simp) ?_
        refine AllReadyH.cons rfl (fun K hK => ?_) AllReadyH.nil
        go_simp
        refine (laws_lqInts_6 HPU.out.2 rfl A13 A14 c13 c14 _ hL13 hL14).mono ?_
        rintro e rxu7 ⟨rfl, hc⟩
        have rxb7 := rxb6.trans (hc.mono rxb6.size)
        replace hL13 := hL13.below hc (Nat.le_refl _)
        replace hL14 := hL14.below hc (Nat.le_refl _)
        clear hc
        go_wp2_with fail
        refine hK.out _ _ (⟨(hs.out _ rxb7).x0, (hs.out _ rxb7).x1, (ht.out _ rxb7).x0, (ht.out _ rxb7).x1, (hu.out _ rxb7).x0, (hu.out _ rxb7).x1, hg.out _ rxb7⟩) (fun hHrx7 => ?_)
        clear hK K
        try simp only [Act.put, jA, jB, jC, jD, jE, jF]
        refine wpAnyH_take (i := 33) (v := ?vrx27) rfl (by kernel_rfl) (by kernel_rfl) (by kernel_rfl) (fun _ _ _ h => h) (Or.inl ⟨by kernel_rfl, ?yrx27⟩) hHrx7 ?rrx27
        case yrx27 => (intro w' hS; (try dsimp only at hS); obtain ⟨s0, s1, s2, s3, s4, s5, s6⟩ := hS; (try go_simp); (try with_reducible rfl))
        try simp only [Act.put, jA, jB, jC, jD, jE, jF]
        refine wpAnyH_take (i := 34) (v := ?vrx28) rfl (by kernel_rfl) (by kernel_rfl) (by kernel_rfl) (fun _ _ _ h => h) (Or.inl ⟨by kernel_rfl, ?yrx28⟩) hHrx7 ?rrx28
        case yrx28 => (intro w' hS; (try dsimp only at hS); obtain ⟨s0, s1, s2, s3, s4, s5, s6⟩ := hS; (try go_simp); (try with_reducible rfl))
        try simp only [Act.put, jA, jB, jC, jD, jE, jF]
        refine wpAnyH_done (by kernel_rfl) ?_ _
        have hBf := hvd.trans (rxb7.mono (by have h := hvd.size; exact h))
        go_wp2
        go_ret
        exact ⟨rfl, hBf⟩
      · go_simp
        obtain ⟨bz, hbz⟩ : ∃ b, Wr.heap.size = b := ⟨_, rfl⟩
        have hbz' : Wr.drew.heap.size = bz := hbz
        have hq := Row.new Wr.drew #[.slice none 0 0, .slice none 0 0] 26
        have hb3 := hvb.alloc hvb.size (.cells #[.slice none 0 0, .slice none 0 0] 26)
        rw [hbz'] at hq
        (try simp only [hbz])
        obtain ⟨z0, z2⟩ := hq.at0 (j := 0) rfl
        obtain ⟨z1, z3⟩ := hq.at0 (j := 1) rfl
        have hzs : (Wr.drew.alloc (.cells #[.slice none 0 0, .slice none 0 0] 26)).heap.size = bz + 1 := by rw [← hbz']; simp
        have hzs2 : (Wr.alloc (.cells #[.slice none 0 0, .slice none 0 0] 26)).drew.heap.size = bz + 1 := hzs
        refine hK.out _ _ (⟨(hs.out _ hb3).x0, (hs.out _ hb3).x1⟩) (fun hHr4 => ?_)
        clear hK K
        try simp only [Act.put, jA, jB, jC, jD, jE, jF]
        refine wpAnyH_ready (rs := [11]) (by kernel_rfl) (by simp) ?_
        refine AllReadyH.cons rfl (fun K hK => ?_) AllReadyH.nil
        go_simp
        refine (impl_StepsTo_t HTR.out HPC.out.1.fine (by omega) A1 D1 V 4 6 c1 d1 vc _ _ (hs.out _ hb3).hn (hs.out _ hb3).hm rfl (hs.out _ hb3).fl (hs.out _ hb3).dk (hXx.out _ hb3)).mono ?_
        rintro e w4 ⟨A4, c4, D4, d4, rfl, hF4, hD4, hl4, hc⟩
        have hb4 := hb3.trans (hc.mono hb3.size)
        have hz4 := hc.size
        have y0 := (hc.cell (p := ⟨bz, 0, none⟩) (by show bz < _; omega)).trans z0
        have y1 := (hc.cell (p := ⟨bz, 1, none⟩) (by show bz < _; omega)).trans z1
        have y2 := (hc.frozen (p := ⟨bz, 0, none⟩) (by show bz < _; omega)).trans z2
        have y3 := (hc.frozen (p := ⟨bz, 1, none⟩) (by show bz < _; omega)).trans z3
        go_wp2_with fail
        refine hK.out _ _ (⟨(hs.out _ hb4).x0, (hs.out _ hb4).x1⟩) (fun hHr5 => ?_)
        clear hK K
        try simp only [Act.put, jA, jB, jC, jD, jE, jF]
        refine wpAnyH_take (i := 12) (v := ?vr16) rfl (by kernel_rfl) (by kernel_rfl) (by kernel_rfl) (fun _ _ _ h => h) (Or.inl ⟨by kernel_rfl, ?yr16⟩) hHr5 ?rr16
        case yr16 => (intro w' hS; (try dsimp only at hS); obtain ⟨s0, s1⟩ := hS; (try go_simp); (try with_reducible rfl))
        try simp only [Act.put, jA, jB, jC, jD, jE, jF]
        refine wpAnyH_take (i := 13) (v := ?vr17) rfl (by kernel_rfl) (by kernel_rfl) (by kernel_rfl) (fun _ _ _ h => h) (Or.inl ⟨by kernel_rfl, ?yr17⟩) hHr5 ?rr17
        case yr17 => (intro w' hS; (try dsimp only at hS); obtain ⟨s0, s1⟩ := hS; (try go_simp); (try with_reducible rfl))
        try simp only [Act.put, jA, jB, jC, jD, jE, jF]
        refine wpAnyH_take (i := 14) (v := ?vr18) rfl (by kernel_rfl) (by kernel_rfl) (by kernel_rfl) (fun _ _ _ h => h) (Or.inl ⟨by kernel_rfl, ?yr18⟩) hHr5 ?rr18
        case yr18 => (intro w' hS; (try dsimp only at hS); obtain ⟨s0, s1⟩ := hS; (try go_simp); (try with_reducible rfl))
        try simp only [Act.put, jA, jB, jC, jD, jE, jF]
        refine wpAnyH_ready (rs := [16]) (by kernel_rfl) (by simp) ?_
        refine AllReadyH.cons rfl (fun K hK => ?_) AllReadyH.nil
        go_simp
        have hWs := laid_cells y0 y1 (.slice A4 4 c4) (.slice D4 6 d4)
        have hsz0 := hb4.size
        have hb8 := hb4.trans (hWs.agr.below (B := Wr.drew.heap.size) hsz0 (fun i hi => by show Wr.heap.size ≤ i; omega))
        have r0 := hWs.new_ 0 _ rfl
        have r1 := hWs.new_ 1 _ rfl
        rw [Nat.add_zero] at r0
        have hF6 := (hF4.keep (w' := ((w4.setCell ⟨bz, 0, none⟩ (.slice A4 4 c4)).setCell ⟨bz, 1, none⟩ (.slice D4 6 d4))) fun b hb hl => hWs.block b (by omega)).fl
        have hD6 := hD4.keep (w' := ((w4.setCell ⟨bz, 0, none⟩ (.slice A4 4 c4)).setCell ⟨bz, 1, none⟩ (.slice D4 6 d4))) fun b hb hl => hWs.block b (by have := hl4 b hb; omega)
        refine hK.out _ _ (⟨(hs.out _ hb8).x0, (hs.out _ hb8).x1⟩) (fun hHr6 => ?_)
        clear hK K
        try simp only [Act.put, jA, jB, jC, jD, jE, jF]
        refine wpAnyH_take (i := 17) (v := ?vr19) rfl (by kernel_rfl) (by kernel_rfl) (by kernel_rfl) (fun _ _ _ h => h) (Or.inl ⟨by kernel_rfl, ?yr19⟩) hHr6 ?rr19
        case yr19 => (intro w' hS; (try dsimp only at hS); obtain ⟨s0, s1⟩ := hS; (try go_simp); (try with_reducible rfl))
        try simp only [Act.put, jA, jB, jC, jD, jE, jF]
        refine wpAnyH_done (by kernel_rfl) ?_ _
        have hHs := hs.out _ hb8
        have hHt : Held ((w4.setCell ⟨bz, 0, none⟩ (.slice A4 4 c4)).setCell ⟨bz, 1, none⟩ (.slice D4 6 d4)) bz A4 D4 4 c4 6 d4 t := ⟨hF6, hD6, r0, r1, (flashOk_len HPC.out.1.flash).symm, HPC.out.1.len.symm⟩
        have hB5 := hvd.trans (hb8.mono (by have h := hvd.size; exact h))
        have hX5 := hXx.out _ hb8
        obtain ⟨W5, hW5⟩ : ∃ W, ((w4.setCell ⟨bz, 0, none⟩ (.slice A4 4 c4)).setCell ⟨bz, 1, none⟩ (.slice D4 6 d4)) = W := ⟨_, rfl⟩
        rw [hW5] at hHs hHt hB5 hX5
        (try rw [hW5])
        clear hW5 hb8 hb4 r0 r1 hF6 hD6 hF4 hD4 hl4
        clear hs hXx hvd hvb
        replace x0 := hHs.x0
        replace x1 := hHs.x1
        have t0 := hHt.x0
        have t1 := hHt.x1
        go_wp2_with fail
        refine (impl_StepsTo_t HTU.out HPU.out.1.fine (by omega) A1 D1 V 4 6 c1 d1 vc _ _ hHs.hn hHs.hm rfl hHs.fl hHs.dk hX5).mono ?_
        rintro e w6 ⟨A6, c6, D6, d6, rfl, hF6, hD6, _, hb⟩
        have hs6 := hb.size
        have hB6 := hB5.trans (hb.mono hB5.size)
        replace hHs := hHs.below hb (Nat.le_refl _)
        replace x0 := hHs.x0
        replace x1 := hHs.x1
        replace hHt := hHt.below hb (Nat.le_refl _)
        replace t0 := hHt.x0
        replace t1 := hHt.x1
        clear hb hB5
        have hHbu := Held.ok HPU.out.1 c6 d6 hF6.fl hD6
        replace hHs := hHs.below ((Below.refl w6.heap.size w6).alloc (Nat.le_refl _) (.cells #[.slice A6 4 c6, .slice D6 6 d6] 26)) (Nat.le_refl _)
        replace hHt := hHt.below ((Below.refl w6.heap.size w6).alloc (Nat.le_refl _) (.cells #[.slice A6 4 c6, .slice D6 6 d6] 26)) (Nat.le_refl _)
        have hBW6 := hB6.alloc hB6.size (.cells #[.slice A6 4 c6, .slice D6 6 d6] 26)
        have hzW6 : (w6.alloc (.cells #[.slice A6 4 c6, .slice D6 6 d6] 26)).heap.size = w6.heap.size + 1 := by simp
        obtain ⟨W6, hEW6⟩ : ∃ W, w6.alloc (.cells #[.slice A6 4 c6, .slice D6 6 d6] 26) = W := ⟨_, rfl⟩
        obtain ⟨bu, hEbu⟩ : ∃ b, w6.heap.size = b := ⟨_, rfl⟩
        rw [hEW6] at hHbu hBW6 hzW6 hHs hHt
        rw [hEbu] at hHbu hzW6
        have u0 := hHbu.x0
        have u1 := hHbu.x1
        replace x0 := hHs.x0
        replace x1 := hHs.x1
        replace t0 := hHt.x0
        replace t1 := hHt.x1
        clear hB6
        clear hF6 hD6
        go_wp2_with fail
        refine (impl_FindLast_r HFU.out A6 4 c6 _ hHbu.hn hHbu.fl).mono ?_
        rintro e w7 ⟨rfl, hb⟩
        have hs7 := hb.size
        have hB7 := hBW6.trans (hb.mono hBW6.size)
        replace hHs := hHs.below hb (Nat.le_refl _)
        replace x0 := hHs.x0
        replace x1 := hHs.x1
        replace hHt := hHt.below hb (Nat.le_refl _)
        replace t0 := hHt.x0
        replace t1 := hHt.x1
        replace hHbu := hHbu.below hb (Nat.le_refl _)
        replace u0 := hHbu.x0
        replace u1 := hHbu.x1
        clear hb hBW6
        have hbb : Below w7.heap.size w7 (w7.alloc (.cells #[.int .i64 2, .int .i64 (next s.flash), .int .i64 a, .int .i64 (readV s a)] 45)) := by (repeat (first | (with_reducible exact Below.refl _ _) | (with_reducible assumption) | (refine Below.setCell ?_ (by first | omega | exact hB.size | exact hb.size | (have h := hB.size; simp; omega) | (have h := hb.size; simp; omega) | (simp; omega) | simp) _) | (refine Below.alloc ?_ (by first | omega | exact hB.size | exact hb.size | (have h := hB.size; simp; omega) | (have h := hb.size; simp; omega) | (simp; omega) | simp) _) | (refine Below.drew ?_)))
        have g0 : (w7.alloc (.cells #[.int .i64 2, .int .i64 (next s.flash), .int .i64 a, .int .i64 (readV s a)] 45)).cell? ⟨w7.heap.size, 0, none⟩ = some (.int .i64 2) := by simp
        replace hHs := hHs.below hbb (Nat.le_refl _)
        replace hHt := hHt.below hbb (Nat.le_refl _)
        replace hHbu := hHbu.below hbb (Nat.le_refl _)
        have hBW7 := hB7.trans (hbb.mono hB7.size)
        have hzW7 : (w7.alloc (.cells #[.int .i64 2, .int .i64 (next s.flash), .int .i64 a, .int .i64 (readV s a)] 45)).heap.size = w7.heap.size + 1 := by simp
        obtain ⟨W7, hEW7⟩ : ∃ W, w7.alloc (.cells #[.int .i64 2, .int .i64 (next s.flash), .int .i64 a, .int .i64 (readV s a)] 45) = W := ⟨_, rfl⟩
        obtain ⟨br, hEbr⟩ : ∃ b, w7.heap.size = b := ⟨_, rfl⟩
        rw [hEW7] at g0 hBW7 hzW7 hHs hHt hHbu
        rw [hEbr] at g0 hzW7
        replace x0 := hHs.x0
        replace x1 := hHs.x1
        replace t0 := hHt.x0
        replace t1 := hHt.x1
        replace u0 := hHbu.x0
        replace u1 := hHbu.x1
        clear hbb hB7
        have hvd : Below w.heap.size w W7.drew := hBW7.drew
        have hs := Lib.hid (fun X (h : Below W7.drew.heap.size W7.drew X) => hHs.drew.below h (Nat.le_refl _))
        have ht := Lib.hid (fun X (h : Below W7.drew.heap.size W7.drew X) => hHt.drew.below h (Nat.le_refl _))
        have hu := Lib.hid (fun X (h : Below W7.drew.heap.size W7.drew X) => hHbu.drew.below h (Nat.le_refl _))
        have hvb : Below W7.drew.heap.size W7.drew W7.drew := Below.refl _ _
        have hg := Lib.hid (fun X (h : Below W7.drew.heap.size W7.drew X) => (h.cell (p := ⟨br, 0, none⟩) (by show br < W7.heap.size; omega)).trans (show W7.drew.cell? _ = _ from g0))
        clear hHs hHt hHbu
        go_wp2
        refine wp_region_held_drew (S := fun X => X.cell? ⟨bx, 0, none⟩ = some (.slice A1 4 c1) ∧ X.cell? ⟨bx, 1, none⟩ = some (.slice D1 6 d1) ∧ X.cell? ⟨bz, 0, none⟩ = some (.slice A4 4 c4) ∧ X.cell? ⟨bz, 1, none⟩ = some (.slice D4 6 d4) ∧ X.cell? ⟨bu, 0, none⟩ = some (.slice A6 4 c6) ∧ X.cell? ⟨bu, 1, none⟩ = some (.slice D6 6 d6) ∧ X.cell? ⟨br, 0, none⟩ = some (.int .i64 2)) (by kernel_rfl) ⟨(hs.out _ hvb).x0, (hs.out _ hvb).x1, (ht.out _ hvb).x0, (ht.out _ hvb).x1, (hu.out _ hvb).x0, (hu.out _ hvb).x1, hg.out _ hvb⟩ (fun hHeld0 => ?_)
        refine wpAnyH_take (i := 0) (v := ?vry1) rfl (by kernel_rfl) (by kernel_rfl) (by kernel_rfl) (fun _ _ _ h => h) (Or.inl ⟨by kernel_rfl, ?yry1⟩) hHeld0 ?rry1
        case yry1 => (intro w' hS; (try dsimp only at hS); obtain ⟨s0, s1, s2, s3, s4, s5, s6⟩ := hS; (try go_simp); (try with_reducible rfl))
        try simp only [Act.put, jA, jB, jC, jD, jE, jF]
        refine wpAnyH_take (i := 1) (v := ?vry2) rfl (by kernel_rfl) (by kernel_rfl) (by kernel_rfl) (fun _ _ _ h => h) (Or.inl ⟨by kernel_rfl, ?yry2⟩) hHeld0 ?rry2
        case yry2 => (intro w' hS; (try dsimp only at hS); obtain ⟨s0, s1, s2, s3, s4, s5, s6⟩ := hS; (try go_simp); (try with_reducible rfl))
        try simp only [Act.put, jA, jB, jC, jD, jE, jF]
        refine wpAnyH_take (i := 2) (v := ?vry3) rfl (by kernel_rfl) (by kernel_rfl) (by kernel_rfl) (fun _ _ _ h => h) (Or.inl ⟨by kernel_rfl, ?yry3⟩) hHeld0 ?rry3
        case yry3 => (intro w' hS; (try dsimp only at hS); obtain ⟨s0, s1, s2, s3, s4, s5, s6⟩ := hS; (try go_simp); (try with_reducible rfl))
        try simp only [Act.put, jA, jB, jC, jD, jE, jF]
        refine wpAnyH_take (i := 3) (v := ?vry4) rfl (by kernel_rfl) (by kernel_rfl) (by kernel_rfl) (fun _ _ _ h => h) (Or.inl ⟨by kernel_rfl, ?yry4⟩) hHeld0 ?rry4
        case yry4 => (intro w' hS; (try dsimp only at hS); obtain ⟨s0, s1, s2, s3, s4, s5, s6⟩ := hS; (try go_simp); (try with_reducible rfl))
        try simp only [Act.put, jA, jB, jC, jD, jE, jF]
        refine wpAnyH_take (i := 4) (v := ?vry5) rfl (by kernel_rfl) (by kernel_rfl) (by kernel_rfl) (fun _ _ _ h => h) (Or.inl ⟨by kernel_rfl, ?yry5⟩) hHeld0 ?rry5
        case yry5 => (intro w' hS; (try dsimp only at hS); obtain ⟨s0, s1, s2, s3, s4, s5, s6⟩ := hS; (try go_simp); (try with_reducible rfl))
        try simp only [Act.put, jA, jB, jC, jD, jE, jF]
        refine wpAnyH_take (i := 5) (v := ?vry6) rfl (by kernel_rfl) (by kernel_rfl) (by kernel_rfl) (fun _ _ _ h => h) (Or.inl ⟨by kernel_rfl, ?yry6⟩) hHeld0 ?rry6
        case yry6 => (intro w' hS; (try dsimp only at hS); obtain ⟨s0, s1, s2, s3, s4, s5, s6⟩ := hS; (try go_simp); (try with_reducible rfl))
        try simp only [Act.put, jA, jB, jC, jD, jE, jF]
        refine wpAnyH_take (i := 6) (v := ?vry7) rfl (by kernel_rfl) (by kernel_rfl) (by kernel_rfl) (fun _ _ _ h => h) (Or.inl ⟨by kernel_rfl, ?yry7⟩) hHeld0 ?rry7
        case yry7 => (intro w' hS; (try dsimp only at hS); obtain ⟨s0, s1, s2, s3, s4, s5, s6⟩ := hS; (try go_simp); (try with_reducible rfl))
        try simp only [Act.put, jA, jB, jC, jD, jE, jF]
        refine wpAnyH_take (i := 7) (v := ?vry8) rfl (by kernel_rfl) (by kernel_rfl) (by kernel_rfl) (fun _ _ _ h => h) (Or.inl ⟨by kernel_rfl, ?yry8⟩) hHeld0 ?rry8
        case yry8 => (intro w' hS; (try dsimp only at hS); obtain ⟨s0, s1, s2, s3, s4, s5, s6⟩ := hS; (try go_simp); (try with_reducible rfl))
        try simp only [Act.put, jA, jB, jC, jD, jE, jF]
        refine wpAnyH_take (i := 8) (v := ?vry9) rfl (by kernel_rfl) (by kernel_rfl) (by kernel_rfl) (fun _ _ _ h => h) (Or.inl ⟨by kernel_rfl, ?yry9⟩) hHeld0 ?rry9
        case yry9 => (intro w' hS; (try dsimp only at hS); obtain ⟨s0, s1, s2, s3, s4, s5, s6⟩ := hS; (try go_simp); (try with_reducible rfl))
        try simp only [Act.put, jA, jB, jC, jD, jE, jF]
        refine wpAnyH_take (i := 9) (v := ?vry10) rfl (by kernel_rfl) (by kernel_rfl) (by kernel_rfl) (fun _ _ _ h => h) (Or.inl ⟨by kernel_rfl, ?yry10⟩) hHeld0 ?rry10
        case yry10 => (intro w' hS; (try dsimp only at hS); obtain ⟨s0, s1, s2, s3, s4, s5, s6⟩ := hS; (try go_simp); (try with_reducible rfl))
        try simp only [Act.put, jA, jB, jC, jD, jE, jF]
        refine wpAnyH_take (i := 11) (v := ?vry11) rfl (by kernel_rfl) (by kernel_rfl) (by kernel_rfl) (fun _ _ _ h => h) (Or.inl ⟨by kernel_rfl, ?yry11⟩) hHeld0 ?rry11
        case yry11 => (intro w' hS; (try dsimp only at hS); obtain ⟨s0, s1, s2, s3, s4, s5, s6⟩ := hS; (try go_simp); (try with_reducible rfl))
        try simp only [Act.put, jA, jB, jC, jD, jE, jF]
        refine wpAnyH_ready (rs := [10]) (by kernel_rfl) (by simp) ?_
        refine AllReadyH.cons rfl (fun K hK => ?_) AllReadyH.nil
        go_simp
        refine (impl_StoreAll_ok HPC.out.1 A4 D4 c4 d4 _ (ht.out _ hvb).fl (ht.out _ hvb).dk).mono ?_
        rintro e ryu1 ⟨A11, c11, rfl, hL11, hc⟩
        have ryb1 := hvb.trans (hc.mono hvb.size)
        clear hc
        go_wp2_with fail
        refine hK.out _ _ (⟨(hs.out _ ryb1).x0, (hs.out _ ryb1).x1, (ht.out _ ryb1).x0, (ht.out _ ryb1).x1, (hu.out _ ryb1).x0, (hu.out _ ryb1).x1, hg.out _ ryb1⟩) (fun hHry1 => ?_)
        clear hK K
        try simp only [Act.put, jA, jB, jC, jD, jE, jF]
        refine wpAnyH_ready (rs := [12]) (by kernel_rfl) (by simp) ?_
        refine AllReadyH.cons rfl (fun K hK => ?_) AllReadyH.nil
        go_simp
        refine (impl_StoreAll_ok HOK.out A1 D1 c1 d1 _ (hs.out _ ryb1).fl (hs.out _ ryb1).dk).mono ?_
        rintro e ryu2 ⟨A12, c12, rfl, hL12, hc⟩
        have ryb2 := ryb1.trans (hc.mono ryb1.size)
        replace hL11 := hL11.below hc (Nat.le_refl _)
        clear hc
        go_wp2_with fail
        refine hK.out _ _ (⟨(hs.out _ ryb2).x0, (hs.out _ ryb2).x1, (ht.out _ ryb2).x0, (ht.out _ ryb2).x1, (hu.out _ ryb2).x0, (hu.out _ ryb2).x1, hg.out _ ryb2⟩) (fun hHry2 => ?_)
        clear hK K
        try simp only [Act.put, jA, jB, jC, jD, jE, jF]
        refine wpAnyH_ready (rs := [13]) (by kernel_rfl) (by simp) ?_
        refine AllReadyH.cons rfl (fun K hK => ?_) AllReadyH.nil
        go_simp
        refine (laws_lqInts_6 HPC.out.2 rfl A11 A12 c11 c12 _ hL11 hL12).mono ?_
        rintro e ryu3 ⟨rfl, hc⟩
        have ryb3 := ryb2.trans (hc.mono ryb2.size)
        replace hL11 := hL11.below hc (Nat.le_refl _)
        replace hL12 := hL12.below hc (Nat.le_refl _)
        clear hc
        go_wp2_with fail
        refine hK.out _ _ (⟨(hs.out _ ryb3).x0, (hs.out _ ryb3).x1, (ht.out _ ryb3).x0, (ht.out _ ryb3).x1, (hu.out _ ryb3).x0, (hu.out _ ryb3).x1, hg.out _ ryb3⟩) (fun hHry3 => ?_)
        clear hK K
        try simp only [Act.put, jA, jB, jC, jD, jE, jF]
        refine wpAnyH_take (i := 14) (v := ?vry12) rfl (by kernel_rfl) (by kernel_rfl) (by kernel_rfl) (fun _ _ _ h => h) (Or.inl ⟨by kernel_rfl, ?yry12⟩) hHry3 ?rry12
        case yry12 => (intro w' hS; (try dsimp only at hS); obtain ⟨s0, s1, s2, s3, s4, s5, s6⟩ := hS; (try go_simp); (try with_reducible rfl))
        try simp only [Act.put, jA, jB, jC, jD, jE, jF]
        refine wpAnyH_take (i := 15) (v := ?vry13) rfl (by kernel_rfl) (by kernel_rfl) (by kernel_rfl) (fun _ _ _ h => h) (Or.inl ⟨by kernel_rfl, ?yry13⟩) hHry3 ?rry13
        case yry13 => (intro w' hS; (try dsimp only at hS); obtain ⟨s0, s1, s2, s3, s4, s5, s6⟩ := hS; (try go_simp); (try with_reducible rfl))
        try simp only [Act.put, jA, jB, jC, jD, jE, jF]
        refine wpAnyH_take (i := 16) (v := ?vry14) rfl (by kernel_rfl) (by kernel_rfl) (by kernel_rfl) (fun _ _ _ h => h) (Or.inl ⟨by kernel_rfl, ?yry14⟩) hHry3 ?rry14
        case yry14 => (intro w' hS; (try dsimp only at hS); obtain ⟨s0, s1, s2, s3, s4, s5, s6⟩ := hS; (try go_simp); (try with_reducible rfl))
        try simp only [Act.put, jA, jB, jC, jD, jE, jF]
        refine wpAnyH_ready (rs := [17]) (by kernel_rfl) (by simp) ?_
        refine AllReadyH.cons rfl (fun K hK => ?_) AllReadyH.nil
        go_simp
        refine (impl_StoreOk_ok HPC.out.1 A4 D4 c4 d4 _ (ht.out _ ryb3).fl (ht.out _ ryb3).dk).mono ?_
        rintro e ryu4 ⟨rfl, hc⟩
        have ryb4 := ryb3.trans (hc.mono ryb3.size)
        clear hc
        go_wp2_with fail
        refine hK.out _ _ (⟨(hs.out _ ryb4).x0, (hs.out _ ryb4).x1, (ht.out _ ryb4).x0, (ht.out _ ryb4).x1, (hu.out _ ryb4).x0, (hu.out _ ryb4).x1, hg.out _ ryb4⟩) (fun hHry4 => ?_)
        clear hK K
        try simp only [Act.put, jA, jB, jC, jD, jE, jF]
        refine wpAnyH_take (i := 18) (v := ?vry15) rfl (by kernel_rfl) (by kernel_rfl) (by kernel_rfl) (fun _ _ _ h => h) (Or.inl ⟨by kernel_rfl, ?yry15⟩) hHry4 ?rry15
        case yry15 => (intro w' hS; (try dsimp only at hS); obtain ⟨s0, s1, s2, s3, s4, s5, s6⟩ := hS; (try go_simp); (try with_reducible rfl))
        try simp only [Act.put, jA, jB, jC, jD, jE, jF]
        refine wpAnyH_take (i := 19) (v := ?vry16) rfl (by kernel_rfl) (by kernel_rfl) (by kernel_rfl) (fun _ _ _ h => h) (Or.inl ⟨by kernel_rfl, ?yry16⟩) hHry4 ?rry16
        case yry16 => (intro w' hS; (try dsimp only at hS); obtain ⟨s0, s1, s2, s3, s4, s5, s6⟩ := hS; (try go_simp); (try with_reducible rfl))
        try simp only [Act.put, jA, jB, jC, jD, jE, jF]
        refine wpAnyH_take (i := 20) (v := ?vry17) rfl (by kernel_rfl) (by kernel_rfl) (by kernel_rfl) (fun _ _ _ h => h) (Or.inl ⟨by kernel_rfl, ?yry17⟩) hHry4 ?rry17
        case yry17 => (intro w' hS; (try dsimp only at hS); obtain ⟨s0, s1, s2, s3, s4, s5, s6⟩ := hS; (try go_simp); (try with_reducible rfl))
        try simp only [Act.put, jA, jB, jC, jD, jE, jF]
        refine wpAnyH_take (i := 21) (v := ?vry18) rfl (by kernel_rfl) (by kernel_rfl) (by kernel_rfl) (fun _ _ _ h => h) (Or.inl ⟨by kernel_rfl, ?yry18⟩) hHry4 ?rry18
        case yry18 => (intro w' hS; (try dsimp only at hS); obtain ⟨s0, s1, s2, s3, s4, s5, s6⟩ := hS; (try go_simp); (try with_reducible rfl))
        try simp only [Act.put, jA, jB, jC, jD, jE, jF]
        refine wpAnyH_take (i := 22) (v := ?vry19) rfl (by kernel_rfl) (by kernel_rfl) (by kernel_rfl) (fun _ _ _ h => h) (Or.inl ⟨by kernel_rfl, ?yry19⟩) hHry4 ?rry19
        case yry19 => (intro w' hS; (try dsimp only at hS); obtain ⟨s0, s1, s2, s3, s4, s5, s6⟩ := hS; (try go_simp); (try with_reducible rfl))
        try simp only [Act.put, jA, jB, jC, jD, jE, jF]
        refine wpAnyH_take (i := 23) (v := ?vry20) rfl (by kernel_rfl) (by kernel_rfl) (by kernel_rfl) (fun _ _ _ h => h) (Or.inl ⟨by kernel_rfl, ?yry20⟩) hHry4 ?rry20
        case yry20 => (intro w' hS; (try dsimp only at hS); obtain ⟨s0, s1, s2, s3, s4, s5, s6⟩ := hS; (try go_simp); (try with_reducible rfl))
        try simp only [Act.put, jA, jB, jC, jD, jE, jF]
        refine wpAnyH_take (i := 24) (v := ?vry21) rfl (by kernel_rfl) (by kernel_rfl) (by kernel_rfl) (fun _ _ _ h => h) (Or.inl ⟨by kernel_rfl, ?yry21⟩) hHry4 ?rry21
        case yry21 => (intro w' hS; (try dsimp only at hS); obtain ⟨s0, s1, s2, s3, s4, s5, s6⟩ := hS; (try go_simp); (try with_reducible rfl))
        try simp only [Act.put, jA, jB, jC, jD, jE, jF]
        refine wpAnyH_take (i := 25) (v := ?vry22) rfl (by kernel_rfl) (by kernel_rfl) (by kernel_rfl) (fun _ _ _ h => h) (Or.inl ⟨by kernel_rfl, ?yry22⟩) hHry4 ?rry22
        case yry22 => (intro w' hS; (try dsimp only at hS); obtain ⟨s0, s1, s2, s3, s4, s5, s6⟩ := hS; (try go_simp); (try with_reducible rfl))
        try simp only [Act.put, jA, jB, jC, jD, jE, jF]
        refine wpAnyH_take (i := 26) (v := ?vry23) rfl (by kernel_rfl) (by kernel_rfl) (by kernel_rfl) (fun _ _ _ h => h) (Or.inl ⟨by kernel_rfl, ?yry23⟩) hHry4 ?rry23
        case yry23 => (intro w' hS; (try dsimp only at hS); obtain ⟨s0, s1, s2, s3, s4, s5, s6⟩ := hS; (try go_simp); (try with_reducible rfl))
        try simp only [Act.put, jA, jB, jC, jD, jE, jF]
        refine wpAnyH_take (i := 27) (v := ?vry24) rfl (by kernel_rfl) (by kernel_rfl) (by kernel_rfl) (fun _ _ _ h => h) (Or.inl ⟨by kernel_rfl, ?yry24⟩) hHry4 ?rry24
        case yry24 => (intro w' hS; (try dsimp only at hS); obtain ⟨s0, s1, s2, s3, s4, s5, s6⟩ := hS; (try go_simp); (try with_reducible rfl))
        try simp only [Act.put, jA, jB, jC, jD, jE, jF]
        refine wpAnyH_take (i := 28) (v := ?vry25) rfl (by kernel_rfl) (by kernel_rfl) (by kernel_rfl) (fun _ _ _ h => h) (Or.inl ⟨by kernel_rfl, ?yry25⟩) hHry4 ?rry25
        case yry25 => (intro w' hS; (try dsimp only at hS); obtain ⟨s0, s1, s2, s3, s4, s5, s6⟩ := hS; (try go_simp); (try with_reducible rfl))
        try simp only [Act.put, jA, jB, jC, jD, jE, jF]
        refine wpAnyH_take (i := 30) (v := ?vry26) rfl (by kernel_rfl) (by kernel_rfl) (by kernel_rfl) (fun _ _ _ h => h) (Or.inl ⟨by kernel_rfl, ?yry26⟩) hHry4 ?rry26
        case yry26 => (intro w' hS; (try dsimp only at hS); obtain ⟨s0, s1, s2, s3, s4, s5, s6⟩ := hS; (try go_simp); (try with_reducible rfl))
        try simp only [Act.put, jA, jB, jC, jD, jE, jF]
        refine wpAnyH_ready (rs := [29]) (by kernel_rfl) (by simp) ?_
        refine AllReadyH.cons rfl (fun K hK => ?_) AllReadyH.nil
        go_simp
        refine (impl_StoreAll_ok HPU.out.1 A6 D6 c6 d6 _ (hu.out _ ryb4).fl (hu.out _ ryb4).dk).mono ?_
        rintro e ryu5 ⟨A13, c13, rfl, hL13, hc⟩
        have ryb5 := ryb4.trans (hc.mono ryb4.size)
        clear hc
        go_wp2_with fail
        refine hK.out _ _ (⟨(hs.out _ ryb5).x0, (hs.out _ ryb5).x1, (ht.out _ ryb5).x0, (ht.out _ ryb5).x1, (hu.out _ ryb5).x0, (hu.out _ ryb5).x1, hg.out _ ryb5⟩) (fun hHry5 => ?_)
        clear hK K
        try simp only [Act.put, jA, jB, jC, jD, jE, jF]
        refine wpAnyH_ready (rs := [31]) (by kernel_rfl) (by simp) ?_
        refine AllReadyH.cons rfl (fun K hK => ?_) AllReadyH.nil
        go_simp
        refine (impl_StoreAll_ok HOK.out A1 D1 c1 d1 _ (hs.out _ ryb5).fl (hs.out _ ryb5).dk).mono ?_
        rintro e ryu6 ⟨A14, c14, rfl, hL14, hc⟩
        have ryb6 := ryb5.trans (hc.mono ryb5.size)
        replace hL13 := hL13.below hc (Nat.le_refl _)
        clear hc
        go_wp2_with fail
        refine hK.out _ _ (⟨(hs.out _ ryb6).x0, (hs.out _ ryb6).x1, (ht.out _ ryb6).x0, (ht.out _ ryb6).x1, (hu.out _ ryb6).x0, (hu.out _ ryb6).x1, hg.out _ ryb6⟩) (fun hHry6 => ?_)
        clear hK K
        try simp only [Act.put, jA, jB, jC, jD, jE, jF]
        refine wpAnyH_ready (rs := [32]) (by kernel_rfl) (by simp) ?_
        refine AllReadyH.cons rfl (fun K hK => ?_) AllReadyH.nil
        go_simp
        refine (laws_lqInts_6 HPU.out.2 rfl A13 A14 c13 c14 _ hL13 hL14).mono ?_
        rintro e ryu7 ⟨rfl, hc⟩
        have ryb7 := ryb6.trans (hc.mono ryb6.size)
        replace hL13 := hL13.below hc (Nat.le_refl _)
        replace hL14 := hL14.below hc (Nat.le_refl _)
        clear hc
        go_wp2_with fail
        refine hK.out _ _ (⟨(hs.out _ ryb7).x0, (hs.out _ ryb7).x1, (ht.out _ ryb7).x0, (ht.out _ ryb7).x1, (hu.out _ ryb7).x0, (hu.out _ ryb7).x1, hg.out _ ryb7⟩) (fun hHry7 => ?_)
        clear hK K
        try simp only [Act.put, jA, jB, jC, jD, jE, jF]
        refine wpAnyH_take (i := 33) (v := ?vry27) rfl (by kernel_rfl) (by kernel_rfl) (by kernel_rfl) (fun _ _ _ h => h) (Or.inl ⟨by kernel_rfl, ?yry27⟩) hHry7 ?rry27
        case yry27 => (intro w' hS; (try dsimp only at hS); obtain ⟨s0, s1, s2, s3, s4, s5, s6⟩ := hS; (try go_simp); (try with_reducible rfl))
        try simp only [Act.put, jA, jB, jC, jD, jE, jF]
        refine wpAnyH_take (i := 34) (v := ?vry28) rfl (by kernel_rfl) (by kernel_rfl) (by kernel_rfl) (fun _ _ _ h => h) (Or.inl ⟨by kernel_rfl, ?yry28⟩) hHry7 ?rry28
        case yry28 => (intro w' hS; (try dsimp only at hS); obtain ⟨s0, s1, s2, s3, s4, s5, s6⟩ := hS; (try go_simp); (try with_reducible rfl))
        try simp only [Act.put, jA, jB, jC, jD, jE, jF]
        refine wpAnyH_done (by kernel_rfl) ?_ _
        have hBf := hvd.trans (ryb7.mono (by have h := hvd.size; exact h))
        go_wp2
        go_ret
        exact ⟨rfl, hBf⟩
  · rw [show storeOk s = false from by simpa using hok]
    clear hok
    go_wp2_with fail
    refine (spec_StepsFill_x HXS.out A1 D1 _ _ c1 d1 _ hHbx.hn hHbx.hm (small_fl HSM.out) hHbx.fl hHbx.dk).mono ?_
    rintro e w5 ⟨V5, vc5, rfl, _, _, _, hb⟩
    have hs5 := hb.size
    have hB5 := hB4.trans (hb.mono hB4.size)
    replace hHbx := hHbx.below hb (Nat.le_refl _)
    replace x0 := hHbx.x0
    replace x1 := hHbx.x1
    clear hb hB4
    go_wp2
    go_ret
    exact ⟨ret_bool (by simp), hB5⟩
end Go.Proofs.Ytbekihiiildgmaa
