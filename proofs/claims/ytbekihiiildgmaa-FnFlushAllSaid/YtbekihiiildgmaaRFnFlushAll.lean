/- Walks: a law over steps: FnFlushAll. -/
import Derived.Test.YtbekihiiildgmaaY9
namespace Go.Proofs.Ytbekihiiildgmaa
set_option linter.unusedVariables false
set_option linter.unusedSimpArgs false
open Go.RowKit Go.Maps
set_option maxHeartbeats 400000
set_option maxHeartbeats 8000000 in
set_option maxRecDepth 100000 in
theorem law_FnFlushAll {w : World} (A : Option Addr) (bs : List Nat) (c : Nat) (hc : Code w A bs c) :
    Calls Try.prog 11 #[.slice A bs.length c] w fun e w' => e = .returned (.bool true) ∧ Below w.heap.size w w' := by
  by_cases hlen : (1048576 : Int) < bs.length
  · go_enter Try.func11, Try.ntmps11
    go_wp2
    go_ret
    exact ⟨rfl, Below.refl _ _⟩
  go_enter Try.func11, Try.ntmps11
  go_wp2_with fail
  refine (spec_DrawStepsFlush A bs c _ hc).mono ?_
  rintro e w1 ⟨A1, D1, c1, d1, s, a, rfl, ha, hsm, hO, hB1⟩
  have hs1 := hB1.size
  have HSM := Lib.hid hsm
  have HA := Lib.hid ha
  clear hsm ha
  have hHbx := Held.new w1 (c := c1) (d := d1) hO.ofl.fl hO.disk rfl rfl
  have hBW1 := hB1.alloc hB1.size (.cells #[.slice A1 s.flash.length c1, .slice D1 s.disk.length d1] 26)
  have hzW1 : (w1.alloc (.cells #[.slice A1 s.flash.length c1, .slice D1 s.disk.length d1] 26)).heap.size = w1.heap.size + 1 := by simp
  obtain ⟨W1, hEW1⟩ : ∃ W, w1.alloc (.cells #[.slice A1 s.flash.length c1, .slice D1 s.disk.length d1] 26) = W := ⟨_, rfl⟩
  obtain ⟨bx, hEbx⟩ : ∃ b, w1.heap.size = b := ⟨_, rfl⟩
  rw [hEW1] at hHbx hBW1 hzW1
  rw [hEbx] at hHbx hzW1
  have x0 := hHbx.x0
  have x1 := hHbx.x1
  clear hB1
  clear hO
  obtain ⟨xs, hxs⟩ : ∃ xs, okSteps s (flush s a) = xs := ⟨_, rfl⟩
  have HXS := Lib.hid hxs
  clear hxs
  go_wp2_with fail
  refine (impl_StepsFlush_x HXS.out A1 D1 _ _ c1 d1 _ hHbx.hn hHbx.hm hHbx.fl hHbx.dk).mono ?_
  rintro e w2 ⟨V, vc, rfl, hX, _, hxc, hb⟩
  have hs2 := hb.size
  have hB2 := hBW1.trans (hb.mono hBW1.size)
  replace hHbx := hHbx.below hb (Nat.le_refl _)
  replace x0 := hHbx.x0
  replace x1 := hHbx.x1
  clear hb hBW1
  go_wp2_with fail
  refine (spec_StepsFlush_x HXS.out A1 D1 _ _ c1 d1 _ hHbx.hn hHbx.hm (small_fl HSM.out) hHbx.fl hHbx.dk).mono ?_
  rintro e w3 ⟨V3, vc3, rfl, _, _, _, hb⟩
  have hs3 := hb.size
  have hB3 := hB2.trans (hb.mono hB2.size)
  replace hHbx := hHbx.below hb (Nat.le_refl _)
  replace x0 := hHbx.x0
  replace x1 := hHbx.x1
  replace hX := hX.below hb (Nat.le_refl _)
  clear hb hB2
  have hself : ((xs.length : Int) != (xs.length : Int)) = false := by simp
  by_cases hne : xs = []
  · subst hne
    go_wp2_with fail
    refine (spec_StepsFlush_x HXS.out A1 D1 _ _ c1 d1 _ hHbx.hn hHbx.hm (small_fl HSM.out) hHbx.fl hHbx.dk).mono ?_
    rintro e w4 ⟨V4, vc4, rfl, _, _, _, hb⟩
    have hs4 := hb.size
    have hB4 := hB3.trans (hb.mono hB3.size)
    replace hHbx := hHbx.below hb (Nat.le_refl _)
    replace x0 := hHbx.x0
    replace x1 := hHbx.x1
    clear hb hB3
    go_wp2
    go_ret
    exact ⟨rfl, hB4⟩
  · have hpos : ((xs.length : Int) == 0) = false := by rw [beq_eq_false_iff_ne]; have := List.length_pos_iff.2 hne; omega
    obtain ⟨hok, hw⟩ := okSteps_okay (by rw [HXS.out]; exact hne)
    have HX := Lib.hid (HXS.out.symm.trans hw)
    have HOK := Lib.hid hok
    have HNE : Hid (flush s a ≠ []) := by rw [Hid, ← HX.out]; exact hne
    have HTA : Hid (∀ cut : Int, 0 ≤ cut → ∀ torn, toR s xs cut torn = (doTo s xs cut torn, true)) := by rw [Hid, HX.out]; exact fun cut hc torn => (by have := toR_steps HOK.out ⟨2, a, 0, cut, torn⟩ hc torn; rw [ev_flush] at this; exact this)
    have hxl : xs.length ≤ 8 := by rw [HX.out]; have := stepsOf_len HOK.out.fine ⟨2, a, 0, 0, false⟩; rw [ev_flush] at this; exact this
    have HL4 : Hid (s.flash.length = 4) := flashOk_len hok.flash
    have HL6 : Hid (s.disk.length = 6) := hok.len
    rw [HL4.out, HL6.out] at hHbx
    replace x0 := hHbx.x0
    replace x1 := hHbx.x1
    clear hok hw hne
    obtain ⟨t, htd⟩ : ∃ t, doTo s xs (xs.length : Int) false = t := ⟨_, rfl⟩
    have HTR : Hid (toR s xs (xs.length : Int) false = (t, true)) := by rw [Hid, HTA.out _ (by omega), htd]
    have HFA : Hid (FlushAll s a t) := by rw [Hid, ← htd, HX.out]; exact flush_all HOK.out HNE.out (by omega) false
    obtain ⟨k, hk, hk6⟩ : ∃ k : Nat, a = (k : Int) + 1 ∧ k < 6 := ⟨(a - 1).toNat, by have := HFA.out.addr; omega, by have := HFA.out.addr; omega⟩
    clear htd HTA HNE
    subst hk
    go_wp2_with fail
    refine (impl_StepsTo_t HTR.out HFA.out.ok.fine (by omega) A1 D1 V 4 6 c1 d1 vc _ _ hHbx.hn hHbx.hm rfl hHbx.fl hHbx.dk hX).mono ?_
    rintro e w4 ⟨A4, c4, D4, d4, rfl, hF4, hD4, _, hb⟩
    have hs4 := hb.size
    have hB4 := hB3.trans (hb.mono hB3.size)
    replace hHbx := hHbx.below hb (Nat.le_refl _)
    replace x0 := hHbx.x0
    replace x1 := hHbx.x1
    clear hb hB3
    have hHbt := Held.ok HFA.out.ok c4 d4 hF4.fl hD4
    replace hHbx := hHbx.below ((Below.refl w4.heap.size w4).alloc (Nat.le_refl _) (.cells #[.slice A4 4 c4, .slice D4 6 d4] 26)) (Nat.le_refl _)
    have hBW4 := hB4.alloc hB4.size (.cells #[.slice A4 4 c4, .slice D4 6 d4] 26)
    have hzW4 : (w4.alloc (.cells #[.slice A4 4 c4, .slice D4 6 d4] 26)).heap.size = w4.heap.size + 1 := by simp
    obtain ⟨W4, hEW4⟩ : ∃ W, w4.alloc (.cells #[.slice A4 4 c4, .slice D4 6 d4] 26) = W := ⟨_, rfl⟩
    obtain ⟨bt, hEbt⟩ : ∃ b, w4.heap.size = b := ⟨_, rfl⟩
    rw [hEW4] at hHbt hBW4 hzW4 hHbx
    rw [hEbt] at hHbt hzW4
    have t0 := hHbt.x0
    have t1 := hHbt.x1
    replace x0 := hHbx.x0
    replace x1 := hHbx.x1
    clear hB4
    clear hF4 hD4
    go_wp2_with fail
    refine (impl_StoreDirty' t A4 D4 _ _ c4 d4 _ hHbt.hn hHbt.hm hHbt.fl hHbt.dk).mono ?_
    rintro e w5 ⟨A5, c5, rfl, hL5, hb⟩
    have hs5 := hb.size
    have hB5 := hBW4.trans (hb.mono hBW4.size)
    replace hHbx := hHbx.below hb (Nat.le_refl _)
    replace x0 := hHbx.x0
    replace x1 := hHbx.x1
    replace hHbt := hHbt.below hb (Nat.le_refl _)
    replace t0 := hHbt.x0
    replace t1 := hHbt.x1
    clear hb hBW4
    have HLL := Lib.hid (dirtyL_len t)
    go_wp2
    go_loopw [9] (fun i wr => ∃ j : Nat, j ≤ (dirtyL t).length ∧ i = .int .i64 j ∧ Below w5.heap.size w5 wr) (fun i _ => (dirtyL t).length - (intOf i).toNat)
    case atStart => exact ⟨0, by omega, rfl, Below.refl _ _⟩
    case round =>
      obtain ⟨j, hj, rfl, hBr⟩ := hrel
      have hll := HLL.out
      by_cases hlt : j < (dirtyL t).length
      · obtain ⟨y, hy⟩ := get_some hlt
        obtain ⟨lb, lo, rfl⟩ := hL5.addr (ints_ne' (by intro e; rw [e] at hlt; simp at hlt))
        obtain ⟨cy, _⟩ := (hL5.below hBr (Nat.le_refl _)).int_ hy
        have hj1 : (j : Int) < (dirtyL t).length := by omega
        have e1 : IntKind.i64.wrap ((j : Int) + 1) = (j : Int) + 1 := IntWalk.i64_in _ (by omega)
        have hya : (y == (k : Int) + 1) = false := by rw [beq_eq_false_iff_ne]; exact dirtyL_not HFA.out.clean (List.mem_of_getElem? hy)
        clear hy
        go_wp2
        go_roundw
        (case rel => exact ⟨j + 1, by omega, by go_num, hBr⟩)
        (case measure => simp [intOf]; omega)
      · have hj1 : ¬ (j : Int) < (dirtyL t).length := by omega
        have hHs := hHbx.below hBr (Nat.le_refl _)
        have hHt := hHbt.below hBr (Nat.le_refl _)
        replace x0 := hHs.x0
        replace x1 := hHs.x1
        replace t0 := hHt.x0
        replace t1 := hHt.x1
        have hdg := dk_get HFA.out.ok.len (a := (k : Int) + 1) (by omega) (by omega)
        rw [HFA.out.disk, show ((k : Int) + 1 - 1).toNat = k by omega] at hdg
        have HDG := Lib.hid hdg
        obtain ⟨db, dO, rfl⟩ := hHt.dk.addr (ints_ne' (by intro e; rw [e] at hdg; simp at hdg))
        have e2 : IntKind.i64.wrap ((k : Int) + 1 - 1) = (k : Int) := by rw [IntWalk.i64_in _ (by omega)]; omega
        have hk1 : (k : Int) < 6 := by omega
        have e3 : IntKind.i64.wrap (k : Int) = (k : Int) := IntWalk.i64_in _ (by omega)
        clear hdg
        have hvd : Below w.heap.size w wr.drew := (hB5.trans (hBr.mono hB5.size)).drew
        have hs := Lib.hid (fun X (h : Below wr.drew.heap.size wr.drew X) => hHs.drew.below h (Nat.le_refl _))
        have ht := Lib.hid (fun X (h : Below wr.drew.heap.size wr.drew X) => hHt.drew.below h (Nat.le_refl _))
        have hvb : Below wr.drew.heap.size wr.drew wr.drew := Below.refl _ _
        have C1 := Lib.hid (fun X (h : Below wr.drew.heap.size wr.drew X) => impl_StoreRead_ok HOK.out (a := (k : Int) + 1) (by omega) (by omega) A1 D1 c1 d1 X (hs.out X h).fl (hs.out X h).dk)
        have hdx := Lib.hid (fun X (h : Below wr.drew.heap.size wr.drew X) => ((ht.out X h).dk.int_ HDG.out).1)
        have hf0 : Hid (okSteps t (flush t ((k : Int) + 1)) = []) := by rw [Hid, HFA.out.again]; unfold okSteps; split <;> rfl
        generalize readV s ((k : Int) + 1) = rv at *
        clear hHs hHt hL5 hX
        go_wp2
        refine wp_region_held_drew (S := fun X => X.cell? ⟨bx, 0, none⟩ = some (.slice A1 4 c1) ∧ X.cell? ⟨bx, 1, none⟩ = some (.slice D1 6 d1) ∧ X.cell? ⟨bt, 0, none⟩ = some (.slice A4 4 c4) ∧ X.cell? ⟨bt, 1, none⟩ = some (.slice (some ⟨db, dO, none⟩) 6 d4) ∧ X.cell? ⟨db, dO + k, none⟩ = some (.int .i64 rv)) (by kernel_rfl) ⟨(hs.out _ hvb).x0, (hs.out _ hvb).x1, (ht.out _ hvb).x0, (ht.out _ hvb).x1, hdx.out _ hvb⟩ (fun hHeld0 => ?_)
        refine wpAnyH_take (i := 0) (v := ?va1) rfl (by kernel_rfl) (by kernel_rfl) (by kernel_rfl) (fun _ _ _ h => h) (Or.inl ⟨by kernel_rfl, ?ya1⟩) hHeld0 ?ra1
        case ya1 => (intro w' hS; (try dsimp only at hS); obtain ⟨s0, s1, s2, s3, s4⟩ := hS; (try go_simp); (try with_reducible rfl))
        try simp only [Act.put, jA, jB, jC, jD, jE, jF]
        refine wpAnyH_take (i := 1) (v := ?va2) rfl (by kernel_rfl) (by kernel_rfl) (by kernel_rfl) (fun _ _ _ h => h) (Or.inl ⟨by kernel_rfl, ?ya2⟩) hHeld0 ?ra2
        case ya2 => (intro w' hS; (try dsimp only at hS); obtain ⟨s0, s1, s2, s3, s4⟩ := hS; (try go_simp); (try with_reducible rfl))
        try simp only [Act.put, jA, jB, jC, jD, jE, jF]
        refine wpAnyH_take (i := 2) (v := ?va3) rfl (by kernel_rfl) (by kernel_rfl) (by kernel_rfl) (fun _ _ _ h => h) (Or.inl ⟨by kernel_rfl, ?ya3⟩) hHeld0 ?ra3
        case ya3 => (intro w' hS; (try dsimp only at hS); obtain ⟨s0, s1, s2, s3, s4⟩ := hS; (try go_simp); (try with_reducible rfl))
        try simp only [Act.put, jA, jB, jC, jD, jE, jF]
        refine wpAnyH_take (i := 3) (v := ?va4) rfl (by kernel_rfl) (by kernel_rfl) (by kernel_rfl) (fun _ _ _ h => h) (Or.inl ⟨by kernel_rfl, ?ya4⟩) hHeld0 ?ra4
        case ya4 => (intro w' hS; (try dsimp only at hS); obtain ⟨s0, s1, s2, s3, s4⟩ := hS; (try go_simp); (try with_reducible rfl))
        try simp only [Act.put, jA, jB, jC, jD, jE, jF]
        refine wpAnyH_take (i := 4) (v := ?va5) rfl (by kernel_rfl) (by kernel_rfl) (by kernel_rfl) (fun _ _ _ h => h) (Or.inl ⟨by kernel_rfl, ?ya5⟩) hHeld0 ?ra5
        case ya5 => (intro w' hS; (try dsimp only at hS); obtain ⟨s0, s1, s2, s3, s4⟩ := hS; (try go_simp); (try with_reducible rfl))
        try simp only [Act.put, jA, jB, jC, jD, jE, jF]
        refine wpAnyH_take (i := 5) (v := ?va6) rfl (by kernel_rfl) (by kernel_rfl) (by kernel_rfl) (fun _ _ _ h => h) (Or.inl ⟨by kernel_rfl, ?ya6⟩) hHeld0 ?ra6
        case ya6 => (intro w' hS; (try dsimp only at hS); obtain ⟨s0, s1, s2, s3, s4⟩ := hS; (try go_simp); (try with_reducible rfl))
        try simp only [Act.put, jA, jB, jC, jD, jE, jF]
        refine wpAnyH_take (i := 6) (v := ?va7) rfl (by kernel_rfl) (by kernel_rfl) (by kernel_rfl) (fun _ _ _ h => h) (Or.inl ⟨by kernel_rfl, ?ya7⟩) hHeld0 ?ra7
        case ya7 => (intro w' hS; (try dsimp only at hS); obtain ⟨s0, s1, s2, s3, s4⟩ := hS; (try go_simp); (try with_reducible rfl))
        try simp only [Act.put, jA, jB, jC, jD, jE, jF]
        refine wpAnyH_take (i := 7) (v := ?va8) rfl (by kernel_rfl) (by kernel_rfl) (by kernel_rfl) (fun _ _ _ h => h) (Or.inl ⟨by kernel_rfl, ?ya8⟩) hHeld0 ?ra8
        case ya8 => (intro w' hS; (try dsimp only at hS); obtain ⟨s0, s1, s2, s3, s4⟩ := hS; (try go_simp); (try with_reducible rfl))
        try simp only [Act.put, jA, jB, jC, jD, jE, jF]
        refine wpAnyH_take (i := 8) (v := ?va9) rfl (by kernel_rfl) (by kernel_rfl) (by kernel_rfl) (fun _ _ _ h => h) (Or.inl ⟨by kernel_rfl, ?ya9⟩) hHeld0 ?ra9
        case ya9 => (intro w' hS; (try dsimp only at hS); obtain ⟨s0, s1, s2, s3, s4⟩ := hS; (try go_simp); (try with_reducible rfl))
        try simp only [Act.put, jA, jB, jC, jD, jE, jF]
        refine wpAnyH_take (i := 9) (v := ?va10) rfl (by kernel_rfl) (by kernel_rfl) (by kernel_rfl) (fun _ _ _ h => h) (Or.inl ⟨by kernel_rfl, ?ya10⟩) hHeld0 ?ra10
        case ya10 => (intro w' hS; (try dsimp only at hS); obtain ⟨s0, s1, s2, s3, s4⟩ := hS; (try go_simp); (try with_reducible rfl))
        try simp only [Act.put, jA, jB, jC, jD, jE, jF]
        refine wpAnyH_ready (rs := [10]) (by kernel_rfl) (by simp) ?_
        refine AllReadyH.cons rfl (fun K hK => ?_) AllReadyH.nil
        go_simp
        refine (C1.out _ hvb).mono ?_
        rintro e au1 ⟨rfl, hc⟩
        have ab1 := hvb.trans (hc.mono hvb.size)
        clear hc
        go_wp2_with fail
        refine hK.out _ _ (⟨(hs.out _ ab1).x0, (hs.out _ ab1).x1, (ht.out _ ab1).x0, (ht.out _ ab1).x1, hdx.out _ ab1⟩) (fun hHa1 => ?_)
        clear hK K
        try simp only [Act.put, jA, jB, jC, jD, jE, jF]
        refine wpAnyH_take (i := 11) (v := ?va11) rfl (by kernel_rfl) (by kernel_rfl) (by kernel_rfl) (fun _ _ _ h => h) (Or.inl ⟨by kernel_rfl, ?ya11⟩) hHa1 ?ra11
        case ya11 => (intro w' hS; (try dsimp only at hS); obtain ⟨s0, s1, s2, s3, s4⟩ := hS; (try go_simp); (try with_reducible rfl))
        try simp only [Act.put, jA, jB, jC, jD, jE, jF]
        refine wpAnyH_take (i := 12) (v := ?va12) rfl (by kernel_rfl) (by kernel_rfl) (by kernel_rfl) (fun _ _ _ h => h) (Or.inl ⟨by kernel_rfl, ?ya12⟩) hHa1 ?ra12
        case ya12 => (intro w' hS; (try dsimp only at hS); obtain ⟨s0, s1, s2, s3, s4⟩ := hS; (try go_simp); (try with_reducible rfl))
        try simp only [Act.put, jA, jB, jC, jD, jE, jF]
        refine wpAnyH_take (i := 13) (v := ?va13) rfl (by kernel_rfl) (by kernel_rfl) (by kernel_rfl) (fun _ _ _ h => h) (Or.inl ⟨by kernel_rfl, ?ya13⟩) hHa1 ?ra13
        case ya13 => (intro w' hS; (try dsimp only at hS); obtain ⟨s0, s1, s2, s3, s4⟩ := hS; (try go_simp); (try with_reducible rfl))
        try simp only [Act.put, jA, jB, jC, jD, jE, jF]
        refine wpAnyH_take (i := 14) (v := ?va14) rfl (by kernel_rfl) (by kernel_rfl) (by kernel_rfl) (fun _ _ _ h => h) (Or.inl ⟨by kernel_rfl, ?ya14⟩) hHa1 ?ra14
        case ya14 => (intro w' hS; (try dsimp only at hS); obtain ⟨s0, s1, s2, s3, s4⟩ := hS; (try go_simp); (try with_reducible rfl))
        try simp only [Act.put, jA, jB, jC, jD, jE, jF]
        refine wpAnyH_take (i := 16) (v := ?va15) rfl (by kernel_rfl) (by kernel_rfl) (by kernel_rfl) (fun _ _ _ h => h) (Or.inl ⟨by kernel_rfl, ?ya15⟩) hHa1 ?ra15
        case ya15 => (intro w' hS; (try dsimp only at hS); obtain ⟨s0, s1, s2, s3, s4⟩ := hS; (try go_simp); (try with_reducible rfl))
        try simp only [Act.put, jA, jB, jC, jD, jE, jF]
        refine wpAnyH_ready (rs := [15]) (by kernel_rfl) (by simp) ?_
        refine AllReadyH.cons rfl (fun K hK => ?_) AllReadyH.nil
        go_simp
        refine (impl_StoreAll_ok HFA.out.ok A4 _ c4 d4 _ (ht.out _ ab1).fl (ht.out _ ab1).dk).mono ?_
        rintro e au2 ⟨A11, c11, rfl, hL11, hc⟩
        have ab2 := ab1.trans (hc.mono ab1.size)
        clear hc
        go_wp2_with fail
        refine hK.out _ _ (⟨(hs.out _ ab2).x0, (hs.out _ ab2).x1, (ht.out _ ab2).x0, (ht.out _ ab2).x1, hdx.out _ ab2⟩) (fun hHa2 => ?_)
        clear hK K
        try simp only [Act.put, jA, jB, jC, jD, jE, jF]
        refine wpAnyH_ready (rs := [17]) (by kernel_rfl) (by simp) ?_
        refine AllReadyH.cons rfl (fun K hK => ?_) AllReadyH.nil
        go_simp
        refine (impl_StoreAll_ok HOK.out A1 D1 c1 d1 _ (hs.out _ ab2).fl (hs.out _ ab2).dk).mono ?_
        rintro e au3 ⟨A12, c12, rfl, hL12, hc⟩
        have ab3 := ab2.trans (hc.mono ab2.size)
        replace hL11 := hL11.below hc (Nat.le_refl _)
        clear hc
        go_wp2_with fail
        refine hK.out _ _ (⟨(hs.out _ ab3).x0, (hs.out _ ab3).x1, (ht.out _ ab3).x0, (ht.out _ ab3).x1, hdx.out _ ab3⟩) (fun hHa3 => ?_)
        clear hK K
        try simp only [Act.put, jA, jB, jC, jD, jE, jF]
        refine wpAnyH_ready (rs := [18]) (by kernel_rfl) (by simp) ?_
        refine AllReadyH.cons rfl (fun K hK => ?_) AllReadyH.nil
        go_simp
        refine (laws_lqInts_6 HFA.out.same rfl A11 A12 c11 c12 _ hL11 hL12).mono ?_
        rintro e au4 ⟨rfl, hc⟩
        have ab4 := ab3.trans (hc.mono ab3.size)
        replace hL11 := hL11.below hc (Nat.le_refl _)
        replace hL12 := hL12.below hc (Nat.le_refl _)
        clear hc
        go_wp2_with fail
        refine hK.out _ _ (⟨(hs.out _ ab4).x0, (hs.out _ ab4).x1, (ht.out _ ab4).x0, (ht.out _ ab4).x1, hdx.out _ ab4⟩) (fun hHa4 => ?_)
        clear hK K
        try simp only [Act.put, jA, jB, jC, jD, jE, jF]
        refine wpAnyH_take (i := 19) (v := ?va16) rfl (by kernel_rfl) (by kernel_rfl) (by kernel_rfl) (fun _ _ _ h => h) (Or.inl ⟨by kernel_rfl, ?ya16⟩) hHa4 ?ra16
        case ya16 => (intro w' hS; (try dsimp only at hS); obtain ⟨s0, s1, s2, s3, s4⟩ := hS; (try go_simp); (try with_reducible rfl))
        try simp only [Act.put, jA, jB, jC, jD, jE, jF]
        refine wpAnyH_take (i := 20) (v := ?va17) rfl (by kernel_rfl) (by kernel_rfl) (by kernel_rfl) (fun _ _ _ h => h) (Or.inl ⟨by kernel_rfl, ?ya17⟩) hHa4 ?ra17
        case ya17 => (intro w' hS; (try dsimp only at hS); obtain ⟨s0, s1, s2, s3, s4⟩ := hS; (try go_simp); (try with_reducible rfl))
        try simp only [Act.put, jA, jB, jC, jD, jE, jF]
        refine wpAnyH_take (i := 21) (v := ?va18) rfl (by kernel_rfl) (by kernel_rfl) (by kernel_rfl) (fun _ _ _ h => h) (Or.inl ⟨by kernel_rfl, ?ya18⟩) hHa4 ?ra18
        case ya18 => (intro w' hS; (try dsimp only at hS); obtain ⟨s0, s1, s2, s3, s4⟩ := hS; (try go_simp); (try with_reducible rfl))
        try simp only [Act.put, jA, jB, jC, jD, jE, jF]
        refine wpAnyH_ready (rs := [22]) (by kernel_rfl) (by simp) ?_
        refine AllReadyH.cons rfl (fun K hK => ?_) AllReadyH.nil
        go_simp
        refine (impl_StoreOk_ok HFA.out.ok A4 _ c4 d4 _ (ht.out _ ab4).fl (ht.out _ ab4).dk).mono ?_
        rintro e au5 ⟨rfl, hc⟩
        have ab5 := ab4.trans (hc.mono ab4.size)
        replace hL11 := hL11.below hc (Nat.le_refl _)
        replace hL12 := hL12.below hc (Nat.le_refl _)
        clear hc
        go_wp2_with fail
        refine hK.out _ _ (⟨(hs.out _ ab5).x0, (hs.out _ ab5).x1, (ht.out _ ab5).x0, (ht.out _ ab5).x1, hdx.out _ ab5⟩) (fun hHa5 => ?_)
        clear hK K
        try simp only [Act.put, jA, jB, jC, jD, jE, jF]
        refine wpAnyH_take (i := 23) (v := ?va19) rfl (by kernel_rfl) (by kernel_rfl) (by kernel_rfl) (fun _ _ _ h => h) (Or.inl ⟨by kernel_rfl, ?ya19⟩) hHa5 ?ra19
        case ya19 => (intro w' hS; (try dsimp only at hS); obtain ⟨s0, s1, s2, s3, s4⟩ := hS; (try go_simp); (try with_reducible rfl))
        try simp only [Act.put, jA, jB, jC, jD, jE, jF]
        refine wpAnyH_take (i := 24) (v := ?va20) rfl (by kernel_rfl) (by kernel_rfl) (by kernel_rfl) (fun _ _ _ h => h) (Or.inl ⟨by kernel_rfl, ?ya20⟩) hHa5 ?ra20
        case ya20 => (intro w' hS; (try dsimp only at hS); obtain ⟨s0, s1, s2, s3, s4⟩ := hS; (try go_simp); (try with_reducible rfl))
        try simp only [Act.put, jA, jB, jC, jD, jE, jF]
        refine wpAnyH_take (i := 25) (v := ?va21) rfl (by kernel_rfl) (by kernel_rfl) (by kernel_rfl) (fun _ _ _ h => h) (Or.inl ⟨by kernel_rfl, ?ya21⟩) hHa5 ?ra21
        case ya21 => (intro w' hS; (try dsimp only at hS); obtain ⟨s0, s1, s2, s3, s4⟩ := hS; (try go_simp); (try with_reducible rfl))
        try simp only [Act.put, jA, jB, jC, jD, jE, jF]
        refine wpAnyH_take (i := 26) (v := ?va22) rfl (by kernel_rfl) (by kernel_rfl) (by kernel_rfl) (fun _ _ _ h => h) (Or.inl ⟨by kernel_rfl, ?ya22⟩) hHa5 ?ra22
        case ya22 => (intro w' hS; (try dsimp only at hS); obtain ⟨s0, s1, s2, s3, s4⟩ := hS; (try go_simp); (try with_reducible rfl))
        try simp only [Act.put, jA, jB, jC, jD, jE, jF]
        refine wpAnyH_ready (rs := [27]) (by kernel_rfl) (by simp) ?_
        refine AllReadyH.cons rfl (fun K hK => ?_) AllReadyH.nil
        go_simp
        refine (impl_StepsFlush_x hf0.out A4 _ 4 6 c4 d4 _ (ht.out _ ab5).hn (ht.out _ ab5).hm (ht.out _ ab5).fl (ht.out _ ab5).dk).mono ?_
        rintro e au6 ⟨V9, c9, rfl, _, _, _, hc⟩
        have ab6 := ab5.trans (hc.mono ab5.size)
        replace hL11 := hL11.below hc (Nat.le_refl _)
        replace hL12 := hL12.below hc (Nat.le_refl _)
        clear hc
        go_wp2_with fail
        refine hK.out _ _ (⟨(hs.out _ ab6).x0, (hs.out _ ab6).x1, (ht.out _ ab6).x0, (ht.out _ ab6).x1, hdx.out _ ab6⟩) (fun hHa6 => ?_)
        clear hK K
        try simp only [Act.put, jA, jB, jC, jD, jE, jF]
        refine wpAnyH_take (i := 28) (v := ?va23) rfl (by kernel_rfl) (by kernel_rfl) (by kernel_rfl) (fun _ _ _ h => h) (Or.inl ⟨by kernel_rfl, ?ya23⟩) hHa6 ?ra23
        case ya23 => (intro w' hS; (try dsimp only at hS); obtain ⟨s0, s1, s2, s3, s4⟩ := hS; (try go_simp); (try with_reducible rfl))
        try simp only [Act.put, jA, jB, jC, jD, jE, jF]
        refine wpAnyH_take (i := 29) (v := ?va24) rfl (by kernel_rfl) (by kernel_rfl) (by kernel_rfl) (fun _ _ _ h => h) (Or.inl ⟨by kernel_rfl, ?ya24⟩) hHa6 ?ra24
        case ya24 => (intro w' hS; (try dsimp only at hS); obtain ⟨s0, s1, s2, s3, s4⟩ := hS; (try go_simp); (try with_reducible rfl))
        try simp only [Act.put, jA, jB, jC, jD, jE, jF]
        refine wpAnyH_take (i := 30) (v := ?va25) rfl (by kernel_rfl) (by kernel_rfl) (by kernel_rfl) (fun _ _ _ h => h) (Or.inl ⟨by kernel_rfl, ?ya25⟩) hHa6 ?ra25
        case ya25 => (intro w' hS; (try dsimp only at hS); obtain ⟨s0, s1, s2, s3, s4⟩ := hS; (try go_simp); (try with_reducible rfl))
        try simp only [Act.put, jA, jB, jC, jD, jE, jF]
        refine wpAnyH_take (i := 31) (v := ?va26) rfl (by kernel_rfl) (by kernel_rfl) (by kernel_rfl) (fun _ _ _ h => h) (Or.inl ⟨by kernel_rfl, ?ya26⟩) hHa6 ?ra26
        case ya26 => (intro w' hS; (try dsimp only at hS); obtain ⟨s0, s1, s2, s3, s4⟩ := hS; (try go_simp); (try with_reducible rfl))
        try simp only [Act.put, jA, jB, jC, jD, jE, jF]
        refine wpAnyH_done (by kernel_rfl) ?_ _
        have hBf := hvd.trans (ab6.mono (by have h := hvd.size; exact h))
        go_wp2
        go_ret
        exact ⟨rfl, hBf⟩
end Go.Proofs.Ytbekihiiildgmaa
