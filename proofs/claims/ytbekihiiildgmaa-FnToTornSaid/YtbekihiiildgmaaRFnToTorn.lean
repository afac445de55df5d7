/- Walks: a law over steps: FnToTorn. -/
import Derived.Test.YtbekihiiildgmaaW9
namespace Go.Proofs.Ytbekihiiildgmaa
set_option linter.unusedVariables false
set_option linter.unusedSimpArgs false
open Go.RowKit Go.Maps
set_option maxHeartbeats 400000
set_option maxHeartbeats 8000000 in
set_option maxRecDepth 100000 in
theorem law_FnToTorn {w : World} (A : Option Addr) (bs : List Nat) (c : Nat) (hc : Code w A bs c) :
    Calls Try.prog 5 #[.slice A bs.length c] w fun e w' => e = .returned (.bool true) ∧ Below w.heap.size w w' := by
  by_cases hlen : (1048576 : Int) < bs.length
  · go_enter Try.func5, Try.ntmps5
    go_wp2
    go_ret
    exact ⟨rfl, Below.refl _ _⟩
  go_enter Try.func5, Try.ntmps5
  go_wp2_with fail
  refine (spec_DrawStepsPut A bs c _ hc).mono ?_
  rintro e w1 ⟨A1, D1, c1, d1, s, a, v, rfl, ha, hv, hsm, hO, hB1⟩
  have hs1 := hB1.size
  have HSM := Lib.hid hsm
  have HA := Lib.hid ha
  clear hsm ha
  have hHbx := Held.new w1 (c := c1) (d := d1) hO.ofl.fl hO.disk rfl rfl
  have hBW1 := hB1.alloc hB1.size (.cells #[.slice A1 s.flash.length c1, .slice D1 s.disk.length d1] 26)
  have hzW1 : (w1.alloc (.cells #[.slice A1 s.flash.length c1, .slice D1 s.disk.length d1] 26)).heap.size = w1.heap.size + 1 := by simp
  obtain ⟨W1, hEW1⟩ : ∃ W, w1.alloc (.cells #[.slice A1 s.flash.length c1, .slice D1 s.disk.length d1] 26) = W := ⟨_, rfl⟩
  obtain ⟨bx, hEbx⟩ : ∃ b, w1.heap.size = b := ⟨_, rfl⟩
  rw [hEW1] at hHbx hBW1 hzW1
  rw [hEbx] at hHbx hzW1
  have x0 := hHbx.x0
  have x1 := hHbx.x1
  clear hB1
  clear hO
  obtain ⟨xs, hxs⟩ : ∃ xs, okSteps s (wr s.flash 1 a v) = xs := ⟨_, rfl⟩
  have HXS := Lib.hid hxs
  clear hxs
  go_wp2_with fail
  refine (impl_StepsPut_x HXS.out A1 D1 _ _ c1 d1 _ hHbx.hn hHbx.hm hHbx.fl hHbx.dk).mono ?_
  rintro e w2 ⟨V, vc, rfl, hX, _, hxc, hb⟩
  have hs2 := hb.size
  have hB2 := hBW1.trans (hb.mono hBW1.size)
  replace hHbx := hHbx.below hb (Nat.le_refl _)
  replace x0 := hHbx.x0
  replace x1 := hHbx.x1
  clear hb hBW1
  go_wp2_with fail
  refine (spec_StepsPut_x HXS.out A1 D1 _ _ c1 d1 _ hHbx.hn hHbx.hm (small_fl HSM.out) hHbx.fl hHbx.dk).mono ?_
  rintro e w3 ⟨V3, vc3, rfl, _, _, _, hb⟩
  have hs3 := hb.size
  have hB3 := hB2.trans (hb.mono hB2.size)
  replace hHbx := hHbx.below hb (Nat.le_refl _)
  replace x0 := hHbx.x0
  replace x1 := hHbx.x1
  replace hX := hX.below hb (Nat.le_refl _)
  clear hb hB2
  have hself : ((xs.length : Int) != (xs.length : Int)) = false := by simp
  by_cases hne : xs = []
  · subst hne
    go_wp2_with fail
    refine (spec_StepsPut_x HXS.out A1 D1 _ _ c1 d1 _ hHbx.hn hHbx.hm (small_fl HSM.out) hHbx.fl hHbx.dk).mono ?_
    rintro e w4 ⟨V4, vc4, rfl, _, _, _, hb⟩
    have hs4 := hb.size
    have hB4 := hB3.trans (hb.mono hB3.size)
    replace hHbx := hHbx.below hb (Nat.le_refl _)
    replace x0 := hHbx.x0
    replace x1 := hHbx.x1
    clear hb hB3
    go_wp2
    go_ret
    exact ⟨rfl, hB4⟩
  · have hpos : ((xs.length : Int) == 0) = false := by rw [beq_eq_false_iff_ne]; have := List.length_pos_iff.2 hne; omega
    obtain ⟨hok, hw⟩ := okSteps_okay (by rw [HXS.out]; exact hne)
    have HX := Lib.hid (HXS.out.symm.trans hw)
    have HOK := Lib.hid hok
    have HNE : Hid (wr s.flash 1 a v ≠ []) := by rw [Hid, ← HX.out]; exact hne
    have HTA : Hid (∀ cut : Int, 0 ≤ cut → ∀ torn, toR s xs cut torn = (doTo s xs cut torn, true)) := by rw [Hid, HX.out]; exact fun cut hc torn => (by have := toR_steps HOK.out ⟨1, a, v, cut, torn⟩ hc torn; rw [ev_put] at this; exact this)
    have hxl : xs.length ≤ 8 := by rw [HX.out]; have := stepsOf_len HOK.out.fine ⟨1, a, v, 0, false⟩; rw [ev_put] at this; exact this
    have HL4 : Hid (s.flash.length = 4) := flashOk_len hok.flash
    have HL6 : Hid (s.disk.length = 6) := hok.len
    rw [HL4.out, HL6.out] at hHbx
    replace x0 := hHbx.x0
    replace x1 := hHbx.x1
    clear hok hw hne
    obtain ⟨x, ys, hxy, hcase⟩ := wr_torn HOK.out HNE.out (fun h => absurd h (by decide))
    have hxs : xs = x :: ys := HX.out.trans hxy
    have hpos0 : (0 : Int) < xs.length := by rw [hxs]; simp
    obtain ⟨t, htd⟩ : ∃ t, doTo s xs (0 : Int) true = t := ⟨_, rfl⟩
    have HTR : Hid (toR s xs (0 : Int) true = (t, true)) := by rw [Hid, HTA.out _ (by omega), htd]
    have HPC : Hid (Okay t ∧ allV t = allV s) := by rw [Hid, ← htd, HX.out]; exact put_cut HOK.out (by omega) (by rw [← HX.out]; exact hpos0) true
    have hts : doStep s x true = t := by rw [← htd, hxs, doTo_head]
    have hx0 : xs[0]? = some x := by rw [hxs]; rfl
    rw [hts] at hcase
    have HCASE := Lib.hid hcase
    have HX0 := Lib.hid hx0
    clear htd HTA hts hxy hxs hx0 hcase
    go_wp2_with fail
    refine (impl_StepsTo_t HTR.out HPC.out.1.fine (by omega) A1 D1 V 4 6 c1 d1 vc _ _ hHbx.hn hHbx.hm rfl hHbx.fl hHbx.dk hX).mono ?_
    rintro e w4 ⟨A4, c4, D4, d4, rfl, hF4, hD4, _, hb⟩
    have hs4 := hb.size
    have hB4 := hB3.trans (hb.mono hB3.size)
    replace hHbx := hHbx.below hb (Nat.le_refl _)
    replace x0 := hHbx.x0
    replace x1 := hHbx.x1
    replace hX := hX.below hb (Nat.le_refl _)
    clear hb hB3
    have hHbt := Held.ok HPC.out.1 c4 d4 hF4.fl hD4
    replace hHbx := hHbx.below ((Below.refl w4.heap.size w4).alloc (Nat.le_refl _) (.cells #[.slice A4 4 c4, .slice D4 6 d4] 26)) (Nat.le_refl _)
    replace hX := hX.below ((Below.refl w4.heap.size w4).alloc (Nat.le_refl _) (.cells #[.slice A4 4 c4, .slice D4 6 d4] 26)) (Nat.le_refl _)
    have hBW4 := hB4.alloc hB4.size (.cells #[.slice A4 4 c4, .slice D4 6 d4] 26)
    have hzW4 : (w4.alloc (.cells #[.slice A4 4 c4, .slice D4 6 d4] 26)).heap.size = w4.heap.size + 1 := by simp
    obtain ⟨W4, hEW4⟩ : ∃ W, w4.alloc (.cells #[.slice A4 4 c4, .slice D4 6 d4] 26) = W := ⟨_, rfl⟩
    obtain ⟨bt, hEbt⟩ : ∃ b, w4.heap.size = b := ⟨_, rfl⟩
    rw [hEW4] at hHbt hBW4 hzW4 hHbx hX
    rw [hEbt] at hHbt hzW4
    have t0 := hHbt.x0
    have t1 := hHbt.x1
    replace x0 := hHbx.x0
    replace x1 := hHbx.x1
    clear hB4
    clear hF4 hD4
    obtain ⟨lb, lo, rfl⟩ := hX.addr (by intro e; have h1 := sps_len xs; rw [e] at h1; have h2 := HX0.out; have h3 := (List.getElem?_eq_some_iff.1 h2).1; simp at h1; omega)
    obtain ⟨p0, _⟩ := hX.sp HX0.out
    rw [Nat.zero_mul, Nat.add_zero] at p0
    clear hX
    rcases HCASE.out with ⟨hk, hts⟩ | ⟨hk, g, i, b, c0, hg, hT⟩
    · have hk1 : (x.kind == 1) = true := by rw [hk]; rfl
      have hHs2 : Held W4 bx A1 D1 4 c1 6 d1 t := by rw [hts]; exact hHbx
      have HPO := Lib.hid HPC.out.1
      clear hk hts HCASE
      go_wp2_with fail
      refine (laws_lqStore_ok HPO.out A4 D4 A1 D1 c4 d4 c1 d1 _ hHbt.fl hHbt.dk hHs2.fl hHs2.dk).mono ?_
      rintro e w5 ⟨rfl, hb⟩
      have hBf := hBW4.trans (hb.mono hBW4.size)
      go_wp2
      go_ret
      exact ⟨rfl, hBf⟩
    · have hk1 : (x.kind == 1) = false := by simpa using hk
      have HD : Hid (t.disk = s.disk) := by rw [hg]; exact rfl
      have HTD : Hid (TornD s.flash t.flash i b c0) := by rw [hg]; exact hT
      clear hk hg hT HCASE
      have hvd : Below w.heap.size w W4.drew := hBW4.drew
      have hs := Lib.hid (fun X (h : Below W4.drew.heap.size W4.drew X) => hHbx.drew.below h (Nat.le_refl _))
      have ht := Lib.hid (fun X (h : Below W4.drew.heap.size W4.drew X) => hHbt.drew.below h (Nat.le_refl _))
      have hvb : Below W4.drew.heap.size W4.drew W4.drew := Below.refl _ _
      clear hHbx hHbt
      go_wp2
      refine wp_region_held_drew (S := fun X => X.cell? ⟨bx, 0, none⟩ = some (.slice A1 4 c1) ∧ X.cell? ⟨bx, 1, none⟩ = some (.slice D1 6 d1) ∧ X.cell? ⟨bt, 0, none⟩ = some (.slice A4 4 c4) ∧ X.cell? ⟨bt, 1, none⟩ = some (.slice D4 6 d4)) (by kernel_rfl) ⟨(hs.out _ hvb).x0, (hs.out _ hvb).x1, (ht.out _ hvb).x0, (ht.out _ hvb).x1⟩ (fun hHeld0 => ?_)
      refine wpAnyH_take (i := 0) (v := ?va1) rfl (by kernel_rfl) (by kernel_rfl) (by kernel_rfl) (fun _ _ _ h => h) (Or.inl ⟨by kernel_rfl, ?ya1⟩) hHeld0 ?ra1
      case ya1 => (intro w' hS; (try dsimp only at hS); obtain ⟨s0, s1, s2, s3⟩ := hS; (try go_simp); (try with_reducible rfl))
      try simp only [Act.put, jA, jB, jC, jD, jE, jF]
      refine wpAnyH_take (i := 1) (v := ?va2) rfl (by kernel_rfl) (by kernel_rfl) (by kernel_rfl) (fun _ _ _ h => h) (Or.inl ⟨by kernel_rfl, ?ya2⟩) hHeld0 ?ra2
      case ya2 => (intro w' hS; (try dsimp only at hS); obtain ⟨s0, s1, s2, s3⟩ := hS; (try go_simp); (try with_reducible rfl))
      try simp only [Act.put, jA, jB, jC, jD, jE, jF]
      refine wpAnyH_take (i := 2) (v := ?va3) rfl (by kernel_rfl) (by kernel_rfl) (by kernel_rfl) (fun _ _ _ h => h) (Or.inl ⟨by kernel_rfl, ?ya3⟩) hHeld0 ?ra3
      case ya3 => (intro w' hS; (try dsimp only at hS); obtain ⟨s0, s1, s2, s3⟩ := hS; (try go_simp); (try with_reducible rfl))
      try simp only [Act.put, jA, jB, jC, jD, jE, jF]
      refine wpAnyH_take (i := 3) (v := ?va4) rfl (by kernel_rfl) (by kernel_rfl) (by kernel_rfl) (fun _ _ _ h => h) (Or.inl ⟨by kernel_rfl, ?ya4⟩) hHeld0 ?ra4
      case ya4 => (intro w' hS; (try dsimp only at hS); obtain ⟨s0, s1, s2, s3⟩ := hS; (try go_simp); (try with_reducible rfl))
      try simp only [Act.put, jA, jB, jC, jD, jE, jF]
      refine wpAnyH_take (i := 4) (v := ?va5) rfl (by kernel_rfl) (by kernel_rfl) (by kernel_rfl) (fun _ _ _ h => h) (Or.inl ⟨by kernel_rfl, ?ya5⟩) hHeld0 ?ra5
      case ya5 => (intro w' hS; (try dsimp only at hS); obtain ⟨s0, s1, s2, s3⟩ := hS; (try go_simp); (try with_reducible rfl))
      try simp only [Act.put, jA, jB, jC, jD, jE, jF]
      refine wpAnyH_take (i := 5) (v := ?va6) rfl (by kernel_rfl) (by kernel_rfl) (by kernel_rfl) (fun _ _ _ h => h) (Or.inl ⟨by kernel_rfl, ?ya6⟩) hHeld0 ?ra6
      case ya6 => (intro w' hS; (try dsimp only at hS); obtain ⟨s0, s1, s2, s3⟩ := hS; (try go_simp); (try with_reducible rfl))
      try simp only [Act.put, jA, jB, jC, jD, jE, jF]
      refine wpAnyH_ready (rs := [6]) (by kernel_rfl) (by simp) ?_
      refine AllReadyH.cons rfl (fun K hK => ?_) AllReadyH.nil
      go_simp
      refine (laws_lqInts_6 HD.out HPC.out.1.len D4 D1 d4 d1 _ (ht.out _ hvb).dk (hs.out _ hvb).dk).mono ?_
      rintro e au1 ⟨rfl, hc⟩
      have ab1 := hvb.trans (hc.mono hvb.size)
      clear hc
      go_wp2_with fail
      refine hK.out _ _ (⟨(hs.out _ ab1).x0, (hs.out _ ab1).x1, (ht.out _ ab1).x0, (ht.out _ ab1).x1⟩) (fun hHa1 => ?_)
      clear hK K
      try simp only [Act.put, jA, jB, jC, jD, jE, jF]
      refine wpAnyH_take (i := 7) (v := ?va7) rfl (by kernel_rfl) (by kernel_rfl) (by kernel_rfl) (fun _ _ _ h => h) (Or.inl ⟨by kernel_rfl, ?ya7⟩) hHa1 ?ra7
      case ya7 => (intro w' hS; (try dsimp only at hS); obtain ⟨s0, s1, s2, s3⟩ := hS; (try go_simp); (try with_reducible rfl))
      try simp only [Act.put, jA, jB, jC, jD, jE, jF]
      refine wpAnyH_take (i := 8) (v := ?va8) rfl (by kernel_rfl) (by kernel_rfl) (by kernel_rfl) (fun _ _ _ h => h) (Or.inl ⟨by kernel_rfl, ?ya8⟩) hHa1 ?ra8
      case ya8 => (intro w' hS; (try dsimp only at hS); obtain ⟨s0, s1, s2, s3⟩ := hS; (try go_simp); (try with_reducible rfl))
      try simp only [Act.put, jA, jB, jC, jD, jE, jF]
      refine wpAnyH_take (i := 9) (v := ?va9) rfl (by kernel_rfl) (by kernel_rfl) (by kernel_rfl) (fun _ _ _ h => h) (Or.inl ⟨by kernel_rfl, ?ya9⟩) hHa1 ?ra9
      case ya9 => (intro w' hS; (try dsimp only at hS); obtain ⟨s0, s1, s2, s3⟩ := hS; (try go_simp); (try with_reducible rfl))
      try simp only [Act.put, jA, jB, jC, jD, jE, jF]
      refine wpAnyH_take (i := 11) (v := ?va10) rfl (by kernel_rfl) (by kernel_rfl) (by kernel_rfl) (fun _ _ _ h => h) (Or.inl ⟨by kernel_rfl, ?ya10⟩) hHa1 ?ra10
      case ya10 => (intro w' hS; (try dsimp only at hS); obtain ⟨s0, s1, s2, s3⟩ := hS; (try go_simp); (try with_reducible rfl))
      try simp only [Act.put, jA, jB, jC, jD, jE, jF]
      refine wpAnyH_ready (rs := [10]) (by kernel_rfl) (by simp) ?_
      refine AllReadyH.cons rfl (fun K hK => ?_) AllReadyH.nil
      go_simp
      refine (impl_StoreAll_ok HPC.out.1 A4 D4 c4 d4 _ (ht.out _ ab1).fl (ht.out _ ab1).dk).mono ?_
      rintro e au2 ⟨A11, c11, rfl, hL11, hc⟩
      have ab2 := ab1.trans (hc.mono ab1.size)
      clear hc
      go_wp2_with fail
      refine hK.out _ _ (⟨(hs.out _ ab2).x0, (hs.out _ ab2).x1, (ht.out _ ab2).x0, (ht.out _ ab2).x1⟩) (fun hHa2 => ?_)
      clear hK K
      try simp only [Act.put, jA, jB, jC, jD, jE, jF]
      refine wpAnyH_ready (rs := [12]) (by kernel_rfl) (by simp) ?_
      refine AllReadyH.cons rfl (fun K hK => ?_) AllReadyH.nil
      go_simp
      refine (impl_StoreAll_ok HOK.out A1 D1 c1 d1 _ (hs.out _ ab2).fl (hs.out _ ab2).dk).mono ?_
      rintro e au3 ⟨A12, c12, rfl, hL12, hc⟩
      have ab3 := ab2.trans (hc.mono ab2.size)
      replace hL11 := hL11.below hc (Nat.le_refl _)
      clear hc
      go_wp2_with fail
      refine hK.out _ _ (⟨(hs.out _ ab3).x0, (hs.out _ ab3).x1, (ht.out _ ab3).x0, (ht.out _ ab3).x1⟩) (fun hHa3 => ?_)
      clear hK K
      try simp only [Act.put, jA, jB, jC, jD, jE, jF]
      refine wpAnyH_ready (rs := [13]) (by kernel_rfl) (by simp) ?_
      refine AllReadyH.cons rfl (fun K hK => ?_) AllReadyH.nil
      go_simp
      refine (laws_lqInts_6 HPC.out.2 rfl A11 A12 c11 c12 _ hL11 hL12).mono ?_
      rintro e au4 ⟨rfl, hc⟩
      have ab4 := ab3.trans (hc.mono ab3.size)
      replace hL11 := hL11.below hc (Nat.le_refl _)
      replace hL12 := hL12.below hc (Nat.le_refl _)
      clear hc
      go_wp2_with fail
      refine hK.out _ _ (⟨(hs.out _ ab4).x0, (hs.out _ ab4).x1, (ht.out _ ab4).x0, (ht.out _ ab4).x1⟩) (fun hHa4 => ?_)
      clear hK K
      try simp only [Act.put, jA, jB, jC, jD, jE, jF]
      refine wpAnyH_take (i := 14) (v := ?va11) rfl (by kernel_rfl) (by kernel_rfl) (by kernel_rfl) (fun _ _ _ h => h) (Or.inl ⟨by kernel_rfl, ?ya11⟩) hHa4 ?ra11
      case ya11 => (intro w' hS; (try dsimp only at hS); obtain ⟨s0, s1, s2, s3⟩ := hS; (try go_simp); (try with_reducible rfl))
      try simp only [Act.put, jA, jB, jC, jD, jE, jF]
      refine wpAnyH_take (i := 15) (v := ?va12) rfl (by kernel_rfl) (by kernel_rfl) (by kernel_rfl) (fun _ _ _ h => h) (Or.inl ⟨by kernel_rfl, ?ya12⟩) hHa4 ?ra12
      case ya12 => (intro w' hS; (try dsimp only at hS); obtain ⟨s0, s1, s2, s3⟩ := hS; (try go_simp); (try with_reducible rfl))
      try simp only [Act.put, jA, jB, jC, jD, jE, jF]
      refine wpAnyH_take (i := 16) (v := ?va13) rfl (by kernel_rfl) (by kernel_rfl) (by kernel_rfl) (fun _ _ _ h => h) (Or.inl ⟨by kernel_rfl, ?ya13⟩) hHa4 ?ra13
      case ya13 => (intro w' hS; (try dsimp only at hS); obtain ⟨s0, s1, s2, s3⟩ := hS; (try go_simp); (try with_reducible rfl))
      try simp only [Act.put, jA, jB, jC, jD, jE, jF]
      refine wpAnyH_take (i := 17) (v := ?va14) rfl (by kernel_rfl) (by kernel_rfl) (by kernel_rfl) (fun _ _ _ h => h) (Or.inl ⟨by kernel_rfl, ?ya14⟩) hHa4 ?ra14
      case ya14 => (intro w' hS; (try dsimp only at hS); obtain ⟨s0, s1, s2, s3⟩ := hS; (try go_simp); (try with_reducible rfl))
      try simp only [Act.put, jA, jB, jC, jD, jE, jF]
      refine wpAnyH_ready (rs := [18]) (by kernel_rfl) (by simp) ?_
      refine AllReadyH.cons rfl (fun K hK => ?_) AllReadyH.nil
      go_simp
      refine (laws_lqStore_torn HTD.out A4 D4 A1 D1 4 4 c4 d4 c1 d1 _ HL4.out.symm HL4.out.symm (by rw [HL4.out]; omega) (okay_pages HOK.out) (ht.out _ ab4).fl (hs.out _ ab4).fl).mono ?_
      rintro e au5 ⟨rfl, hc⟩
      have ab5 := ab4.trans (hc.mono ab4.size)
      clear hc
      go_wp2_with fail
      refine hK.out _ _ (⟨(hs.out _ ab5).x0, (hs.out _ ab5).x1, (ht.out _ ab5).x0, (ht.out _ ab5).x1⟩) (fun hHa5 => ?_)
      clear hK K
      try simp only [Act.put, jA, jB, jC, jD, jE, jF]
      refine wpAnyH_take (i := 19) (v := ?va15) rfl (by kernel_rfl) (by kernel_rfl) (by kernel_rfl) (fun _ _ _ h => h) (Or.inl ⟨by kernel_rfl, ?ya15⟩) hHa5 ?ra15
      case ya15 => (intro w' hS; (try dsimp only at hS); obtain ⟨s0, s1, s2, s3⟩ := hS; (try go_simp); (try with_reducible rfl))
      try simp only [Act.put, jA, jB, jC, jD, jE, jF]
      refine wpAnyH_take (i := 20) (v := ?va16) rfl (by kernel_rfl) (by kernel_rfl) (by kernel_rfl) (fun _ _ _ h => h) (Or.inl ⟨by kernel_rfl, ?ya16⟩) hHa5 ?ra16
      case ya16 => (intro w' hS; (try dsimp only at hS); obtain ⟨s0, s1, s2, s3⟩ := hS; (try go_simp); (try with_reducible rfl))
      try simp only [Act.put, jA, jB, jC, jD, jE, jF]
      refine wpAnyH_take (i := 21) (v := ?va17) rfl (by kernel_rfl) (by kernel_rfl) (by kernel_rfl) (fun _ _ _ h => h) (Or.inl ⟨by kernel_rfl, ?ya17⟩) hHa5 ?ra17
      case ya17 => (intro w' hS; (try dsimp only at hS); obtain ⟨s0, s1, s2, s3⟩ := hS; (try go_simp); (try with_reducible rfl))
      try simp only [Act.put, jA, jB, jC, jD, jE, jF]
      refine wpAnyH_done (by kernel_rfl) ?_ _
      have hBf := hvd.trans (ab5.mono (by have h := hvd.size; exact h))
      go_wp2
      go_ret
      exact ⟨rfl, hBf⟩
end Go.Proofs.Ytbekihiiildgmaa
