/- Walks: a law over steps: FnDoSteps. -/
import Derived.Test.YtbekihiiildgmaaW9
namespace Go.Proofs.Ytbekihiiildgmaa
set_option linter.unusedVariables false
set_option linter.unusedSimpArgs false
open Go.RowKit Go.Maps
set_option maxHeartbeats 400000
set_option maxHeartbeats 8000000 in
set_option maxRecDepth 100000 in
theorem law_FnDoSteps {w : World} (A : Option Addr) (bs : List Nat) (c : Nat) (hc : Code w A bs c) :
    Calls Try.prog 4 #[.slice A bs.length c] w fun e w' => e = .returned (.bool true) ∧ Below w.heap.size w w' := by
  by_cases hlen : (1048576 : Int) < bs.length
  · go_enter Try.func4, Try.ntmps4
    go_wp2
    go_ret
    exact ⟨rfl, Below.refl _ _⟩
  go_enter Try.func4, Try.ntmps4
  go_wp2_with fail
  refine (spec_DrawPlaySteps A bs c _ hc).mono ?_
  rintro e w1 ⟨A1, D1, c1, d1, s, ⟨k, a, v, cc, tt⟩, rfl, hev, hsm, hO, hB1⟩
  dsimp only
  have hs1 := hB1.size
  have HSM := Lib.hid hsm
  have HEV := Lib.hid hev
  clear hsm hev
  have hHbx := Held.new w1 (c := c1) (d := d1) hO.ofl.fl hO.disk rfl rfl
  have hBW1 := hB1.alloc hB1.size (.cells #[.slice A1 s.flash.length c1, .slice D1 s.disk.length d1] 26)
  have hzW1 : (w1.alloc (.cells #[.slice A1 s.flash.length c1, .slice D1 s.disk.length d1] 26)).heap.size = w1.heap.size + 1 := by simp
  obtain ⟨W1, hEW1⟩ : ∃ W, w1.alloc (.cells #[.slice A1 s.flash.length c1, .slice D1 s.disk.length d1] 26) = W := ⟨_, rfl⟩
  obtain ⟨bx, hEbx⟩ : ∃ b, w1.heap.size = b := ⟨_, rfl⟩
  rw [hEW1] at hHbx hBW1 hzW1
  rw [hEbx] at hHbx hzW1
  have x0 := hHbx.x0
  have x1 := hHbx.x1
  clear hB1
  clear hO
  have hEv := Row.new W1 #[.int .i64 k, .int .i64 a, .int .i64 v, .int .i64 cc, .bool tt] 28
  replace hHbx := hHbx.below ((Below.refl W1.heap.size W1).alloc (Nat.le_refl _) (.cells #[.int .i64 k, .int .i64 a, .int .i64 v, .int .i64 cc, .bool tt] 28)) (Nat.le_refl _)
  have hBW2 := hBW1.alloc hBW1.size (.cells #[.int .i64 k, .int .i64 a, .int .i64 v, .int .i64 cc, .bool tt] 28)
  have hzW2 : (W1.alloc (.cells #[.int .i64 k, .int .i64 a, .int .i64 v, .int .i64 cc, .bool tt] 28)).heap.size = W1.heap.size + 1 := by simp
  obtain ⟨W2, hEW2⟩ : ∃ W, W1.alloc (.cells #[.int .i64 k, .int .i64 a, .int .i64 v, .int .i64 cc, .bool tt] 28) = W := ⟨_, rfl⟩
  rw [hEW2] at hEv hBW2 hzW2 hHbx
  rw [hzW1] at hEv hzW2
  obtain ⟨⟨e0, e1, e2, e3, e4⟩, _⟩ := hEv.ev5
  replace x0 := hHbx.x0
  replace x1 := hHbx.x1
  clear hBW1
  obtain ⟨xs, hxs⟩ : ∃ xs, okSteps s (stepsOf s ⟨k, a, v, cc, tt⟩) = xs := ⟨_, rfl⟩
  have HXS := Lib.hid hxs
  clear hxs
  go_wp2_with fail
  refine (impl_PlaySteps_x HXS.out A1 D1 _ _ c1 d1 _ hHbx.hn hHbx.hm hHbx.fl hHbx.dk).mono ?_
  rintro e w2 ⟨V, vc, rfl, hX, _, hxc, hb⟩
  have hs2 := hb.size
  have hB2 := hBW2.trans (hb.mono hBW2.size)
  replace hHbx := hHbx.below hb (Nat.le_refl _)
  replace x0 := hHbx.x0
  replace x1 := hHbx.x1
  replace hEv := hEv.below hb (Nat.le_refl _)
  obtain ⟨⟨e0, e1, e2, e3, e4⟩, _⟩ := hEv.ev5
  clear hb hBW2
  go_wp2_with fail
  refine (spec_PlaySteps_x HXS.out A1 D1 _ _ c1 d1 _ hHbx.hn hHbx.hm (small_fl HSM.out) hHbx.fl hHbx.dk).mono ?_
  rintro e w3 ⟨V3, vc3, rfl, _, _, _, hb⟩
  have hs3 := hb.size
  have hB3 := hB2.trans (hb.mono hB2.size)
  replace hHbx := hHbx.below hb (Nat.le_refl _)
  replace x0 := hHbx.x0
  replace x1 := hHbx.x1
  replace hX := hX.below hb (Nat.le_refl _)
  replace hEv := hEv.below hb (Nat.le_refl _)
  obtain ⟨⟨e0, e1, e2, e3, e4⟩, _⟩ := hEv.ev5
  clear hb hB2
  have hself : ((xs.length : Int) != (xs.length : Int)) = false := by simp
  go_wp2_with fail
  refine (spec_StoreOk s A1 D1 _ _ c1 d1 _ hHbx.hn hHbx.hm (small_fl HSM.out) hHbx.fl hHbx.dk).mono ?_
  rintro e w4 ⟨rfl, hb⟩
  have hs4 := hb.size
  have hB4 := hB3.trans (hb.mono hB3.size)
  replace hHbx := hHbx.below hb (Nat.le_refl _)
  replace x0 := hHbx.x0
  replace x1 := hHbx.x1
  replace hX := hX.below hb (Nat.le_refl _)
  replace hEv := hEv.below hb (Nat.le_refl _)
  obtain ⟨⟨e0, e1, e2, e3, e4⟩, _⟩ := hEv.ev5
  clear hb hB3
  by_cases hok : storeOk s = true
  · have HOK := Lib.hid (storeOk_iff.1 hok)
    rw [hok]
    clear hok
    by_cases hk4 : k = 4
    · have hk5 : (k == 4) = true := by rw [hk4]; rfl
      clear hk4
      go_wp2
      go_ret
      exact ⟨ret_bool (by simp), hB4⟩
    · have hk5 : (k == 4) = false := by simpa using hk4
      have HX : Hid (xs = stepsOf s ⟨k, a, v, cc, tt⟩) := by rw [Hid, ← HXS.out]; unfold okSteps; rw [if_pos (storeOk_iff.2 HOK.out)]
      have HL4 : Hid (s.flash.length = 4) := flashOk_len HOK.out.flash
      have HL6 : Hid (s.disk.length = 6) := HOK.out.len
      have hxl : xs.length ≤ 8 := by rw [HX.out]; exact stepsOf_len HOK.out.fine _
      rw [HL4.out, HL6.out] at hHbx
      replace x0 := hHbx.x0
      replace x1 := hHbx.x1
      have HT : Hid (Okay (doEv s ⟨k, a, v, cc, tt⟩)) := (doEv_evt HOK.out ⟨k, a, v, cc, tt⟩).ok
      have HD1 : Hid (cc < 0 → doEv s ⟨k, a, v, cc, tt⟩ = s) := by
        intro h
        unfold doEv
        rw [if_neg hk4, if_pos h]
      have HD2 : Hid (0 ≤ cc → toR s xs cc tt = (doEv s ⟨k, a, v, cc, tt⟩, true)) := by
        intro h
        rw [HX.out, toR_steps HOK.out _ h]
        unfold doEv
        rw [if_neg hk4, if_neg (show ¬ cc < 0 by omega)]
      clear hk4
      go_wp2_with fail
      refine (impl_PlayDo_ok HOK.out k a v cc tt A1 D1 c1 d1 _ hHbx.fl hHbx.dk).mono ?_
      rintro e w5 ⟨A5, c5, D5, d5, rfl, hF5, hD5, _, hb⟩
      have hs5 := hb.size
      have hB5 := hB4.trans (hb.mono hB4.size)
      replace hHbx := hHbx.below hb (Nat.le_refl _)
      replace x0 := hHbx.x0
      replace x1 := hHbx.x1
      replace hX := hX.below hb (Nat.le_refl _)
      replace hEv := hEv.below hb (Nat.le_refl _)
      obtain ⟨⟨e0, e1, e2, e3, e4⟩, _⟩ := hEv.ev5
      clear hb hB4
      generalize doEv s ⟨k, a, v, cc, tt⟩ = t at *
      have hHbt := Held.ok HT.out c5 d5 hF5.fl hD5
      replace hHbx := hHbx.below ((Below.refl w5.heap.size w5).alloc (Nat.le_refl _) (.cells #[.slice A5 4 c5, .slice D5 6 d5] 26)) (Nat.le_refl _)
      replace hX := hX.below ((Below.refl w5.heap.size w5).alloc (Nat.le_refl _) (.cells #[.slice A5 4 c5, .slice D5 6 d5] 26)) (Nat.le_refl _)
      replace hEv := hEv.below ((Below.refl w5.heap.size w5).alloc (Nat.le_refl _) (.cells #[.slice A5 4 c5, .slice D5 6 d5] 26)) (Nat.le_refl _)
      have hBW5 := hB5.alloc hB5.size (.cells #[.slice A5 4 c5, .slice D5 6 d5] 26)
      have hzW5 : (w5.alloc (.cells #[.slice A5 4 c5, .slice D5 6 d5] 26)).heap.size = w5.heap.size + 1 := by simp
      obtain ⟨W5, hEW5⟩ : ∃ W, w5.alloc (.cells #[.slice A5 4 c5, .slice D5 6 d5] 26) = W := ⟨_, rfl⟩
      obtain ⟨bt, hEbt⟩ : ∃ b, w5.heap.size = b := ⟨_, rfl⟩
      rw [hEW5] at hHbt hBW5 hzW5 hHbx hX hEv
      rw [hEbt] at hHbt hzW5
      have t0 := hHbt.x0
      have t1 := hHbt.x1
      replace x0 := hHbx.x0
      replace x1 := hHbx.x1
      clear hB5
      obtain ⟨⟨e0, e1, e2, e3, e4⟩, _⟩ := hEv.ev5
      clear hF5 hD5
      by_cases hc0 : cc < 0
      · have hts := HD1.out hc0
        have HTS := Lib.hid hts
        rw [hts] at hHbt
        clear hts
        go_wp2_with fail
        refine (laws_lqStore_ok HOK.out A5 D5 A1 D1 c5 d5 c1 d1 _ hHbt.fl hHbt.dk hHbx.fl hHbx.dk).mono ?_
        rintro e w6 ⟨rfl, hb⟩
        have hBf := hBW5.trans (hb.mono hBW5.size)
        go_wp2
        go_ret
        exact ⟨rfl, hBf⟩
      · have HTR := Lib.hid (HD2.out (by omega))
        go_wp2_with fail
        refine (impl_StepsTo_t HTR.out HT.out.fine (by omega) A1 D1 V 4 6 c1 d1 vc _ _ hHbx.hn hHbx.hm rfl hHbx.fl hHbx.dk hX).mono ?_
        rintro e w6 ⟨A6, c6, D6, d6, rfl, hF6, hD6, _, hb⟩
        have hs6 := hb.size
        have hB6 := hBW5.trans (hb.mono hBW5.size)
        replace hHbx := hHbx.below hb (Nat.le_refl _)
        replace x0 := hHbx.x0
        replace x1 := hHbx.x1
        replace hHbt := hHbt.below hb (Nat.le_refl _)
        replace t0 := hHbt.x0
        replace t1 := hHbt.x1
        replace hEv := hEv.below hb (Nat.le_refl _)
        obtain ⟨⟨e0, e1, e2, e3, e4⟩, _⟩ := hEv.ev5
        clear hb hBW5
        have hHbu := Held.ok HT.out c6 d6 hF6.fl hD6
        replace hHbx := hHbx.below ((Below.refl w6.heap.size w6).alloc (Nat.le_refl _) (.cells #[.slice A6 4 c6, .slice D6 6 d6] 26)) (Nat.le_refl _)
        replace hHbt := hHbt.below ((Below.refl w6.heap.size w6).alloc (Nat.le_refl _) (.cells #[.slice A6 4 c6, .slice D6 6 d6] 26)) (Nat.le_refl _)
        replace hEv := hEv.below ((Below.refl w6.heap.size w6).alloc (Nat.le_refl _) (.cells #[.slice A6 4 c6, .slice D6 6 d6] 26)) (Nat.le_refl _)
        have hBW6 := hB6.alloc hB6.size (.cells #[.slice A6 4 c6, .slice D6 6 d6] 26)
        have hzW6 : (w6.alloc (.cells #[.slice A6 4 c6, .slice D6 6 d6] 26)).heap.size = w6.heap.size + 1 := by simp
        obtain ⟨W6, hEW6⟩ : ∃ W, w6.alloc (.cells #[.slice A6 4 c6, .slice D6 6 d6] 26) = W := ⟨_, rfl⟩
        obtain ⟨bu, hEbu⟩ : ∃ b, w6.heap.size = b := ⟨_, rfl⟩
        rw [hEW6] at hHbu hBW6 hzW6 hHbx hHbt hEv
        rw [hEbu] at hHbu hzW6
        have u0 := hHbu.x0
        have u1 := hHbu.x1
        replace x0 := hHbx.x0
        replace x1 := hHbx.x1
        replace t0 := hHbt.x0
        replace t1 := hHbt.x1
        clear hB6
        obtain ⟨⟨e0, e1, e2, e3, e4⟩, _⟩ := hEv.ev5
        clear hF6 hD6
        go_wp2_with fail
        refine (laws_lqStore_ok HT.out A5 D5 A6 D6 c5 d5 c6 d6 _ hHbt.fl hHbt.dk hHbu.fl hHbu.dk).mono ?_
        rintro e w7 ⟨rfl, hb⟩
        have hBf := hBW6.trans (hb.mono hBW6.size)
        go_wp2
        go_ret
        exact ⟨rfl, hBf⟩
  · rw [show storeOk s = false from by simpa using hok]
    clear hok
    go_wp2
    go_ret
    exact ⟨ret_bool (by simp), hB4⟩
end Go.Proofs.Ytbekihiiildgmaa
