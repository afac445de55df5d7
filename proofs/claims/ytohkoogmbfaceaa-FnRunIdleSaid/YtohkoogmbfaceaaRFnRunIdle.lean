/- Walks: laws over plays: FnRunIdle. -/
import Derived.Test.YtohkoogmbfaceaaZ7
namespace Go.Proofs.Ytohkoogmbfaceaa
set_option linter.unusedVariables false
set_option linter.unusedSimpArgs false
open Go.RowKit Go.Maps
set_option maxHeartbeats 400000
set_option maxHeartbeats 8000000 in
set_option maxRecDepth 100000 in
theorem law_FnRunIdle {w : World} (A : Option Addr) (bs : List Nat) (c : Nat) (hc : Code w A bs c) :
    Calls Try.prog 5 #[.slice A bs.length c] w fun e w' => e = .returned (.bool true) ∧ Below w.heap.size w w' := by
  by_cases hlen : (1048576 : Int) < bs.length
  · go_enter Try.func5, Try.ntmps5
    go_wp2
    go_ret
    exact ⟨rfl, Below.refl _ _⟩
  go_enter Try.func5, Try.ntmps5
  go_wp2_with fail
  refine (spec_DrawPlayRun A bs c _ hc).mono ?_
  rintro e w1 ⟨v, es, rfl, hE, hel, hef, hB1⟩
  obtain ⟨V, vc, rfl, hX, _, _⟩ := hE.out
  have hs1 := hB1.size
  have HEF := Lib.hid hef
  clear hE hef
  by_cases h60 : es.length ≤ 60
  · have HOK := Lib.hid (run_run es).ok
    go_wp2_with fail
    refine (impl_PlayRun_ok h60 V vc _ hX).mono ?_
    rintro e w2 ⟨A2, c2, D2, d2, rfl, hF2, hD2, _, hb⟩
    have hs2 := hb.size
    have hB2 := hB1.trans (hb.mono hB1.size)
    replace hX := hX.below hb (Nat.le_refl _)
    clear hb
    have hHbx := Held.ok HOK.out c2 d2 hF2.fl hD2
    replace hX := hX.below ((Below.refl w2.heap.size w2).alloc (Nat.le_refl _) (.cells #[.slice A2 4 c2, .slice D2 6 d2] 28)) (Nat.le_refl _)
    have hBW2 := hB2.alloc hB2.size (.cells #[.slice A2 4 c2, .slice D2 6 d2] 28)
    have hzW2 : (w2.alloc (.cells #[.slice A2 4 c2, .slice D2 6 d2] 28)).heap.size = w2.heap.size + 1 := by simp
    obtain ⟨W2, hEW2⟩ : ∃ W, w2.alloc (.cells #[.slice A2 4 c2, .slice D2 6 d2] 28) = W := ⟨_, rfl⟩
    obtain ⟨bx, hEbx⟩ : ∃ b, w2.heap.size = b := ⟨_, rfl⟩
    rw [hEW2] at hHbx hBW2 hzW2 hX
    rw [hEbx] at hHbx hzW2
    clear hF2 hD2
    go_wp2_with fail
    refine (spec_PlayRun_ok h60 V vc _ hX).mono ?_
    rintro e w3 ⟨A3, c3, D3, d3, rfl, hF3, hD3, _, hb⟩
    have hs3 := hb.size
    have hB3 := hBW2.trans (hb.mono hBW2.size)
    replace hX := hX.below hb (Nat.le_refl _)
    replace hHbx := hHbx.below hb (Nat.le_refl _)
    clear hb
    have hHby' := Held.ok HOK.out c3 d3 hF3.fl hD3
    replace hX := hX.below ((Below.refl w3.heap.size w3).alloc (Nat.le_refl _) (.cells #[.slice A3 4 c3, .slice D3 6 d3] 28)) (Nat.le_refl _)
    replace hHbx := hHbx.below ((Below.refl w3.heap.size w3).alloc (Nat.le_refl _) (.cells #[.slice A3 4 c3, .slice D3 6 d3] 28)) (Nat.le_refl _)
    have hBW3 := hB3.alloc hB3.size (.cells #[.slice A3 4 c3, .slice D3 6 d3] 28)
    have hzW3 : (w3.alloc (.cells #[.slice A3 4 c3, .slice D3 6 d3] 28)).heap.size = w3.heap.size + 1 := by simp
    obtain ⟨W3, hEW3⟩ : ∃ W, w3.alloc (.cells #[.slice A3 4 c3, .slice D3 6 d3] 28) = W := ⟨_, rfl⟩
    obtain ⟨by', hEby'⟩ : ∃ b, w3.heap.size = b := ⟨_, rfl⟩
    rw [hEW3] at hHby' hBW3 hzW3 hX hHbx
    rw [hEby'] at hHby' hzW3
    clear hF3 hD3
    have x0 := hHbx.x0
    have x1 := hHbx.x1
    have y0 := hHby'.x0
    have y1 := hHby'.x1
    go_wp2_with fail
    refine (laws_lqStore_ok HOK.out A2 D2 A3 D3 c2 d2 c3 d3 _ hHbx.fl hHbx.dk hHby'.fl hHby'.dk).mono ?_
    rintro e w4 ⟨rfl, hb⟩
    have hB4 := hBW3.trans (hb.mono hBW3.size)
    replace hX := hX.below hb (Nat.le_refl _)
    replace hHbx := hHbx.below hb (Nat.le_refl _)
    replace x0 := hHbx.x0
    replace x1 := hHbx.x1
    clear hb hHby' y0 y1 hBW3 hBW2 hB3 hB2 hB1
    clear hX
    go_wp2_with fail
    refine (impl_PlayDo_ok HOK.out 5 1 0 9 false A2 D2 c2 d2 _ hHbx.fl hHbx.dk).mono ?_
    rintro e w5 ⟨A10, c10, D10, d10, rfl, hF, hD, _, hb⟩
    rw [idle_kind (doRun es)] at hF hD
    have hB5 := hB4.trans (hb.mono hB4.size)
    replace hHbx := hHbx.below hb (Nat.le_refl _)
    clear hb
    have hHb5 := Held.ok HOK.out c10 d10 hF.fl hD
    replace hHbx := hHbx.below ((Below.refl w5.heap.size w5).alloc (Nat.le_refl _) (.cells #[.slice A10 4 c10, .slice D10 6 d10] 28)) (Nat.le_refl _)
    have hBW5 := hB5.alloc hB5.size (.cells #[.slice A10 4 c10, .slice D10 6 d10] 28)
    have hzW5 : (w5.alloc (.cells #[.slice A10 4 c10, .slice D10 6 d10] 28)).heap.size = w5.heap.size + 1 := by simp
    obtain ⟨W5, hEW5⟩ : ∃ W, w5.alloc (.cells #[.slice A10 4 c10, .slice D10 6 d10] 28) = W := ⟨_, rfl⟩
    obtain ⟨b5, hEb5⟩ : ∃ b, w5.heap.size = b := ⟨_, rfl⟩
    rw [hEW5] at hHb5 hBW5 hzW5 hHbx
    rw [hEb5] at hHb5 hzW5
    clear hF hD hB4 hB5
    replace x0 := hHbx.x0
    replace x1 := hHbx.x1
    have y5 := hHb5.x0
    have z5 := hHb5.x1
    go_wp2_with fail
    refine (impl_PlayDo_ok HOK.out 1 7 0 9 false A2 D2 c2 d2 _ hHbx.fl hHbx.dk).mono ?_
    rintro e w6 ⟨A11, c11, D11, d11, rfl, hF, hD, _, hb⟩
    rw [idle_addr (doRun es)] at hF hD
    have hB6 := hBW5.trans (hb.mono hBW5.size)
    replace hHbx := hHbx.below hb (Nat.le_refl _)
    replace hHb5 := hHb5.below hb (Nat.le_refl _)
    clear hb
    have hHb6 := Held.ok HOK.out c11 d11 hF.fl hD
    replace hHbx := hHbx.below ((Below.refl w6.heap.size w6).alloc (Nat.le_refl _) (.cells #[.slice A11 4 c11, .slice D11 6 d11] 28)) (Nat.le_refl _)
    replace hHb5 := hHb5.below ((Below.refl w6.heap.size w6).alloc (Nat.le_refl _) (.cells #[.slice A11 4 c11, .slice D11 6 d11] 28)) (Nat.le_refl _)
    have hBW6 := hB6.alloc hB6.size (.cells #[.slice A11 4 c11, .slice D11 6 d11] 28)
    have hzW6 : (w6.alloc (.cells #[.slice A11 4 c11, .slice D11 6 d11] 28)).heap.size = w6.heap.size + 1 := by simp
    obtain ⟨W6, hEW6⟩ : ∃ W, w6.alloc (.cells #[.slice A11 4 c11, .slice D11 6 d11] 28) = W := ⟨_, rfl⟩
    obtain ⟨b6, hEb6⟩ : ∃ b, w6.heap.size = b := ⟨_, rfl⟩
    rw [hEW6] at hHb6 hBW6 hzW6 hHbx hHb5
    rw [hEb6] at hHb6 hzW6
    clear hF hD hBW5 hB6
    replace x0 := hHbx.x0
    replace x1 := hHbx.x1
    have y5 := hHb5.x0
    have z5 := hHb5.x1
    have y6 := hHb6.x0
    have z6 := hHb6.x1
    go_wp2_with fail
    refine (impl_PlayDo_ok HOK.out 1 1 10 9 false A2 D2 c2 d2 _ hHbx.fl hHbx.dk).mono ?_
    rintro e w7 ⟨A12, c12, D12, d12, rfl, hF, hD, _, hb⟩
    rw [idle_val (doRun es)] at hF hD
    have hB7 := hBW6.trans (hb.mono hBW6.size)
    replace hHbx := hHbx.below hb (Nat.le_refl _)
    replace hHb5 := hHb5.below hb (Nat.le_refl _)
    replace hHb6 := hHb6.below hb (Nat.le_refl _)
    clear hb
    have hHb7 := Held.ok HOK.out c12 d12 hF.fl hD
    replace hHbx := hHbx.below ((Below.refl w7.heap.size w7).alloc (Nat.le_refl _) (.cells #[.slice A12 4 c12, .slice D12 6 d12] 28)) (Nat.le_refl _)
    replace hHb5 := hHb5.below ((Below.refl w7.heap.size w7).alloc (Nat.le_refl _) (.cells #[.slice A12 4 c12, .slice D12 6 d12] 28)) (Nat.le_refl _)
    replace hHb6 := hHb6.below ((Below.refl w7.heap.size w7).alloc (Nat.le_refl _) (.cells #[.slice A12 4 c12, .slice D12 6 d12] 28)) (Nat.le_refl _)
    have hBW7 := hB7.alloc hB7.size (.cells #[.slice A12 4 c12, .slice D12 6 d12] 28)
    have hzW7 : (w7.alloc (.cells #[.slice A12 4 c12, .slice D12 6 d12] 28)).heap.size = w7.heap.size + 1 := by simp
    obtain ⟨W7, hEW7⟩ : ∃ W, w7.alloc (.cells #[.slice A12 4 c12, .slice D12 6 d12] 28) = W := ⟨_, rfl⟩
    obtain ⟨b7, hEb7⟩ : ∃ b, w7.heap.size = b := ⟨_, rfl⟩
    rw [hEW7] at hHb7 hBW7 hzW7 hHbx hHb5 hHb6
    rw [hEb7] at hHb7 hzW7
    clear hF hD hBW6 hB7
    replace x0 := hHbx.x0
    replace x1 := hHbx.x1
    have y5 := hHb5.x0
    have z5 := hHb5.x1
    have y6 := hHb6.x0
    have z6 := hHb6.x1
    have y7 := hHb7.x0
    have z7 := hHb7.x1
    go_wp2_with fail
    refine (impl_PlayDo_ok HOK.out 1 1 1 0 false A2 D2 c2 d2 _ hHbx.fl hHbx.dk).mono ?_
    rintro e w8 ⟨A13, c13, D13, d13, rfl, hF, hD, _, hb⟩
    rw [idle_cut (doRun es)] at hF hD
    have hB8 := hBW7.trans (hb.mono hBW7.size)
    replace hHbx := hHbx.below hb (Nat.le_refl _)
    replace hHb5 := hHb5.below hb (Nat.le_refl _)
    replace hHb6 := hHb6.below hb (Nat.le_refl _)
    replace hHb7 := hHb7.below hb (Nat.le_refl _)
    clear hb
    have hHb8 := Held.ok HOK.out c13 d13 hF.fl hD
    replace hHbx := hHbx.below ((Below.refl w8.heap.size w8).alloc (Nat.le_refl _) (.cells #[.slice A13 4 c13, .slice D13 6 d13] 28)) (Nat.le_refl _)
    replace hHb5 := hHb5.below ((Below.refl w8.heap.size w8).alloc (Nat.le_refl _) (.cells #[.slice A13 4 c13, .slice D13 6 d13] 28)) (Nat.le_refl _)
    replace hHb6 := hHb6.below ((Below.refl w8.heap.size w8).alloc (Nat.le_refl _) (.cells #[.slice A13 4 c13, .slice D13 6 d13] 28)) (Nat.le_refl _)
    replace hHb7 := hHb7.below ((Below.refl w8.heap.size w8).alloc (Nat.le_refl _) (.cells #[.slice A13 4 c13, .slice D13 6 d13] 28)) (Nat.le_refl _)
    have hBW8 := hB8.alloc hB8.size (.cells #[.slice A13 4 c13, .slice D13 6 d13] 28)
    have hzW8 : (w8.alloc (.cells #[.slice A13 4 c13, .slice D13 6 d13] 28)).heap.size = w8.heap.size + 1 := by simp
    obtain ⟨W8, hEW8⟩ : ∃ W, w8.alloc (.cells #[.slice A13 4 c13, .slice D13 6 d13] 28) = W := ⟨_, rfl⟩
    obtain ⟨b8, hEb8⟩ : ∃ b, w8.heap.size = b := ⟨_, rfl⟩
    rw [hEW8] at hHb8 hBW8 hzW8 hHbx hHb5 hHb6 hHb7
    rw [hEb8] at hHb8 hzW8
    clear hF hD hBW7 hB8
    replace x0 := hHbx.x0
    replace x1 := hHbx.x1
    have y5 := hHb5.x0
    have z5 := hHb5.x1
    have y6 := hHb6.x0
    have z6 := hHb6.x1
    have y7 := hHb7.x0
    have z7 := hHb7.x1
    have y8 := hHb8.x0
    have z8 := hHb8.x1
    go_wp2_with fail
    refine (impl_PlayDo_ok HOK.out 2 0 0 9 false A2 D2 c2 d2 _ hHbx.fl hHbx.dk).mono ?_
    rintro e w9 ⟨A14, c14, D14, d14, rfl, hF, hD, _, hb⟩
    rw [idle_flush (doRun es)] at hF hD
    have hB9 := hBW8.trans (hb.mono hBW8.size)
    replace hHbx := hHbx.below hb (Nat.le_refl _)
    replace hHb5 := hHb5.below hb (Nat.le_refl _)
    replace hHb6 := hHb6.below hb (Nat.le_refl _)
    replace hHb7 := hHb7.below hb (Nat.le_refl _)
    replace hHb8 := hHb8.below hb (Nat.le_refl _)
    clear hb
    have hHb9 := Held.ok HOK.out c14 d14 hF.fl hD
    replace hHbx := hHbx.below ((Below.refl w9.heap.size w9).alloc (Nat.le_refl _) (.cells #[.slice A14 4 c14, .slice D14 6 d14] 28)) (Nat.le_refl _)
    replace hHb5 := hHb5.below ((Below.refl w9.heap.size w9).alloc (Nat.le_refl _) (.cells #[.slice A14 4 c14, .slice D14 6 d14] 28)) (Nat.le_refl _)
    replace hHb6 := hHb6.below ((Below.refl w9.heap.size w9).alloc (Nat.le_refl _) (.cells #[.slice A14 4 c14, .slice D14 6 d14] 28)) (Nat.le_refl _)
    replace hHb7 := hHb7.below ((Below.refl w9.heap.size w9).alloc (Nat.le_refl _) (.cells #[.slice A14 4 c14, .slice D14 6 d14] 28)) (Nat.le_refl _)
    replace hHb8 := hHb8.below ((Below.refl w9.heap.size w9).alloc (Nat.le_refl _) (.cells #[.slice A14 4 c14, .slice D14 6 d14] 28)) (Nat.le_refl _)
    have hBW9 := hB9.alloc hB9.size (.cells #[.slice A14 4 c14, .slice D14 6 d14] 28)
    have hzW9 : (w9.alloc (.cells #[.slice A14 4 c14, .slice D14 6 d14] 28)).heap.size = w9.heap.size + 1 := by simp
    obtain ⟨W9, hEW9⟩ : ∃ W, w9.alloc (.cells #[.slice A14 4 c14, .slice D14 6 d14] 28) = W := ⟨_, rfl⟩
    obtain ⟨b9, hEb9⟩ : ∃ b, w9.heap.size = b := ⟨_, rfl⟩
    rw [hEW9] at hHb9 hBW9 hzW9 hHbx hHb5 hHb6 hHb7 hHb8
    rw [hEb9] at hHb9 hzW9
    clear hF hD hBW8 hB9
    replace x0 := hHbx.x0
    replace x1 := hHbx.x1
    have y5 := hHb5.x0
    have z5 := hHb5.x1
    have y6 := hHb6.x0
    have z6 := hHb6.x1
    have y7 := hHb7.x0
    have z7 := hHb7.x1
    have y8 := hHb8.x0
    have z8 := hHb8.x1
    have y9 := hHb9.x0
    have z9 := hHb9.x1
    go_wp2_with fail
    refine (laws_lqStore_ok HOK.out A10 D10 A2 D2 c10 d10 c2 d2 _ hHb5.fl hHb5.dk hHbx.fl hHbx.dk).mono ?_
    rintro e w10 ⟨rfl, hb⟩
    have hB10 := hBW9.trans (hb.mono hBW9.size)
    replace hHbx := hHbx.below hb (Nat.le_refl _)
    replace hHb5 := hHb5.below hb (Nat.le_refl _)
    replace hHb6 := hHb6.below hb (Nat.le_refl _)
    replace hHb7 := hHb7.below hb (Nat.le_refl _)
    replace hHb8 := hHb8.below hb (Nat.le_refl _)
    replace hHb9 := hHb9.below hb (Nat.le_refl _)
    clear hb hBW9
    replace x0 := hHbx.x0
    replace x1 := hHbx.x1
    replace y5 := hHb5.x0
    replace z5 := hHb5.x1
    replace y6 := hHb6.x0
    replace z6 := hHb6.x1
    replace y7 := hHb7.x0
    replace z7 := hHb7.x1
    replace y8 := hHb8.x0
    replace z8 := hHb8.x1
    replace y9 := hHb9.x0
    replace z9 := hHb9.x1
    go_wp2_with fail
    refine (laws_lqStore_ok HOK.out A11 D11 A2 D2 c11 d11 c2 d2 _ hHb6.fl hHb6.dk hHbx.fl hHbx.dk).mono ?_
    rintro e w11 ⟨rfl, hb⟩
    have hB11 := hB10.trans (hb.mono hB10.size)
    replace hHbx := hHbx.below hb (Nat.le_refl _)
    replace hHb5 := hHb5.below hb (Nat.le_refl _)
    replace hHb6 := hHb6.below hb (Nat.le_refl _)
    replace hHb7 := hHb7.below hb (Nat.le_refl _)
    replace hHb8 := hHb8.below hb (Nat.le_refl _)
    replace hHb9 := hHb9.below hb (Nat.le_refl _)
    clear hb hB10
    replace x0 := hHbx.x0
    replace x1 := hHbx.x1
    replace y5 := hHb5.x0
    replace z5 := hHb5.x1
    replace y6 := hHb6.x0
    replace z6 := hHb6.x1
    replace y7 := hHb7.x0
    replace z7 := hHb7.x1
    replace y8 := hHb8.x0
    replace z8 := hHb8.x1
    replace y9 := hHb9.x0
    replace z9 := hHb9.x1
    go_wp2_with fail
    refine (laws_lqStore_ok HOK.out A12 D12 A2 D2 c12 d12 c2 d2 _ hHb7.fl hHb7.dk hHbx.fl hHbx.dk).mono ?_
    rintro e w12 ⟨rfl, hb⟩
    have hB12 := hB11.trans (hb.mono hB11.size)
    replace hHbx := hHbx.below hb (Nat.le_refl _)
    replace hHb5 := hHb5.below hb (Nat.le_refl _)
    replace hHb6 := hHb6.below hb (Nat.le_refl _)
    replace hHb7 := hHb7.below hb (Nat.le_refl _)
    replace hHb8 := hHb8.below hb (Nat.le_refl _)
    replace hHb9 := hHb9.below hb (Nat.le_refl _)
    clear hb hB11
    replace x0 := hHbx.x0
    replace x1 := hHbx.x1
    replace y5 := hHb5.x0
    replace z5 := hHb5.x1
    replace y6 := hHb6.x0
    replace z6 := hHb6.x1
    replace y7 := hHb7.x0
    replace z7 := hHb7.x1
    replace y8 := hHb8.x0
    replace z8 := hHb8.x1
    replace y9 := hHb9.x0
    replace z9 := hHb9.x1
    go_wp2_with fail
    refine (laws_lqStore_ok HOK.out A13 D13 A2 D2 c13 d13 c2 d2 _ hHb8.fl hHb8.dk hHbx.fl hHbx.dk).mono ?_
    rintro e w13 ⟨rfl, hb⟩
    have hB13 := hB12.trans (hb.mono hB12.size)
    replace hHbx := hHbx.below hb (Nat.le_refl _)
    replace hHb5 := hHb5.below hb (Nat.le_refl _)
    replace hHb6 := hHb6.below hb (Nat.le_refl _)
    replace hHb7 := hHb7.below hb (Nat.le_refl _)
    replace hHb8 := hHb8.below hb (Nat.le_refl _)
    replace hHb9 := hHb9.below hb (Nat.le_refl _)
    clear hb hB12
    replace x0 := hHbx.x0
    replace x1 := hHbx.x1
    replace y5 := hHb5.x0
    replace z5 := hHb5.x1
    replace y6 := hHb6.x0
    replace z6 := hHb6.x1
    replace y7 := hHb7.x0
    replace z7 := hHb7.x1
    replace y8 := hHb8.x0
    replace z8 := hHb8.x1
    replace y9 := hHb9.x0
    replace z9 := hHb9.x1
    go_wp2_with fail
    refine (laws_lqStore_ok HOK.out A14 D14 A2 D2 c14 d14 c2 d2 _ hHb9.fl hHb9.dk hHbx.fl hHbx.dk).mono ?_
    rintro e w14 ⟨rfl, hb⟩
    have hB14 := hB13.trans (hb.mono hB13.size)
    replace hHbx := hHbx.below hb (Nat.le_refl _)
    replace hHb5 := hHb5.below hb (Nat.le_refl _)
    replace hHb6 := hHb6.below hb (Nat.le_refl _)
    replace hHb7 := hHb7.below hb (Nat.le_refl _)
    replace hHb8 := hHb8.below hb (Nat.le_refl _)
    replace hHb9 := hHb9.below hb (Nat.le_refl _)
    clear hb hB13
    replace x0 := hHbx.x0
    replace x1 := hHbx.x1
    replace y5 := hHb5.x0
    replace z5 := hHb5.x1
    replace y6 := hHb6.x0
    replace z6 := hHb6.x1
    replace y7 := hHb7.x0
    replace z7 := hHb7.x1
    replace y8 := hHb8.x0
    replace z8 := hHb8.x1
    replace y9 := hHb9.x0
    replace z9 := hHb9.x1
    go_wp2
    go_ret
    exact ⟨rfl, hB14⟩
  · have h61 : 60 < es.length := by omega
    go_wp2_with fail
    refine (impl_PlayRun_no h61 (by omega) V vc _ hX).mono ?_
    rintro e w2 ⟨A2, c2, D2, d2, rfl, hb⟩
    have hs2 := hb.size
    have hB2 := hB1.trans (hb.mono hB1.size)
    replace hX := hX.below hb (Nat.le_refl _)
    clear hb
    have hHbx := Held.no w2 A2 D2 c2 d2
    replace hX := hX.below ((Below.refl w2.heap.size w2).alloc (Nat.le_refl _) (.cells #[.slice A2 0 c2, .slice D2 0 d2] 28)) (Nat.le_refl _)
    have hBW2 := hB2.alloc hB2.size (.cells #[.slice A2 0 c2, .slice D2 0 d2] 28)
    have hzW2 : (w2.alloc (.cells #[.slice A2 0 c2, .slice D2 0 d2] 28)).heap.size = w2.heap.size + 1 := by simp
    obtain ⟨W2, hEW2⟩ : ∃ W, w2.alloc (.cells #[.slice A2 0 c2, .slice D2 0 d2] 28) = W := ⟨_, rfl⟩
    obtain ⟨bx, hEbx⟩ : ∃ b, w2.heap.size = b := ⟨_, rfl⟩
    rw [hEW2] at hHbx hBW2 hzW2 hX
    rw [hEbx] at hHbx hzW2
    go_wp2_with fail
    refine (spec_PlayRun_no h61 (by omega) V vc _ hX).mono ?_
    rintro e w3 ⟨A3, c3, D3, d3, rfl, hb⟩
    have hs3 := hb.size
    have hB3 := hBW2.trans (hb.mono hBW2.size)
    replace hX := hX.below hb (Nat.le_refl _)
    replace hHbx := hHbx.below hb (Nat.le_refl _)
    clear hb
    have hHby' := Held.no w3 A3 D3 c3 d3
    replace hX := hX.below ((Below.refl w3.heap.size w3).alloc (Nat.le_refl _) (.cells #[.slice A3 0 c3, .slice D3 0 d3] 28)) (Nat.le_refl _)
    replace hHbx := hHbx.below ((Below.refl w3.heap.size w3).alloc (Nat.le_refl _) (.cells #[.slice A3 0 c3, .slice D3 0 d3] 28)) (Nat.le_refl _)
    have hBW3 := hB3.alloc hB3.size (.cells #[.slice A3 0 c3, .slice D3 0 d3] 28)
    have hzW3 : (w3.alloc (.cells #[.slice A3 0 c3, .slice D3 0 d3] 28)).heap.size = w3.heap.size + 1 := by simp
    obtain ⟨W3, hEW3⟩ : ∃ W, w3.alloc (.cells #[.slice A3 0 c3, .slice D3 0 d3] 28) = W := ⟨_, rfl⟩
    obtain ⟨by', hEby'⟩ : ∃ b, w3.heap.size = b := ⟨_, rfl⟩
    rw [hEW3] at hHby' hBW3 hzW3 hX hHbx
    rw [hEby'] at hHby' hzW3
    have x0 := hHbx.x0
    have x1 := hHbx.x1
    have y0 := hHby'.x0
    have y1 := hHby'.x1
    go_wp2_with fail
    refine (laws_lqStore_no A2 D2 A3 D3 c2 d2 c3 d3 _).mono ?_
    rintro e w4 ⟨rfl, hb⟩
    have hB4 := hBW3.trans (hb.mono hBW3.size)
    replace hX := hX.below hb (Nat.le_refl _)
    replace hHbx := hHbx.below hb (Nat.le_refl _)
    replace hHby' := hHby'.below hb (Nat.le_refl _)
    replace x0 := hHbx.x0
    replace x1 := hHbx.x1
    replace y0 := hHby'.x0
    replace y1 := hHby'.x1
    clear hb hBW3 hBW2 hB3 hB2 hB1
    go_wp2_with fail
    refine (laws_lqStore_no A2 D2 A3 D3 c2 d2 c3 d3 _).mono ?_
    rintro e w5 ⟨rfl, hb⟩
    have hB5 := hB4.trans (hb.mono hB4.size)
    go_wp2
    go_ret
    exact ⟨rfl, hB5⟩
end Go.Proofs.Ytohkoogmbfaceaa
