/- Walks: laws over plays: FnRunPut. -/
import Derived.Test.YtohkoogmbfaceaaZ7
namespace Go.Proofs.Ytohkoogmbfaceaa
set_option linter.unusedVariables false
set_option linter.unusedSimpArgs false
open Go.RowKit Go.Maps
set_option maxHeartbeats 400000
set_option maxHeartbeats 8000000 in
set_option maxRecDepth 100000 in
theorem law_FnRunPut {w : World} (A : Option Addr) (bs : List Nat) (c : Nat) (hc : Code w A bs c) (A' : Option Addr) (bs' : List Nat) (c' : Nat) (hc' : Code w A' bs' c') :
    Calls Try.prog 9 #[.slice A bs.length c, .slice A' bs'.length c'] w fun e w' => e = .returned (.bool true) ∧ Below w.heap.size w w' := by
  by_cases hlen : (1048576 : Int) < bs.length
  · go_enter Try.func9, Try.ntmps9
    go_wp2
    go_ret
    exact ⟨rfl, Below.refl _ _⟩
  by_cases hlen' : (1048576 : Int) < bs'.length
  · go_enter Try.func9, Try.ntmps9
    go_wp2
    go_ret
    exact ⟨rfl, Below.refl _ _⟩
  go_enter Try.func9, Try.ntmps9
  go_wp2_with fail
  refine (spec_DrawPlayRun A bs c _ hc).mono ?_
  rintro e w1 ⟨v, es, rfl, hE, hel, hef, hB1⟩
  obtain ⟨V, vc, rfl, hX, _, _⟩ := hE.out
  have hs1 := hB1.size
  have HEF := Lib.hid hef
  clear hE hef
  by_cases h60 : es.length ≤ 60
  · have HOK := Lib.hid (run_run es).ok
    go_wp2_with fail
    refine (impl_PlayRun_ok h60 V vc _ hX).mono ?_
    rintro e w2 ⟨A2, c2, D2, d2, rfl, hF2, hD2, _, hb⟩
    have hs2 := hb.size
    have hB2 := hB1.trans (hb.mono hB1.size)
    replace hX := hX.below hb (Nat.le_refl _)
    clear hb
    have hHbx := Held.ok HOK.out c2 d2 hF2.fl hD2
    replace hX := hX.below ((Below.refl w2.heap.size w2).alloc (Nat.le_refl _) (.cells #[.slice A2 4 c2, .slice D2 6 d2] 28)) (Nat.le_refl _)
    have hBW2 := hB2.alloc hB2.size (.cells #[.slice A2 4 c2, .slice D2 6 d2] 28)
    have hzW2 : (w2.alloc (.cells #[.slice A2 4 c2, .slice D2 6 d2] 28)).heap.size = w2.heap.size + 1 := by simp
    obtain ⟨W2, hEW2⟩ : ∃ W, w2.alloc (.cells #[.slice A2 4 c2, .slice D2 6 d2] 28) = W := ⟨_, rfl⟩
    obtain ⟨bx, hEbx⟩ : ∃ b, w2.heap.size = b := ⟨_, rfl⟩
    rw [hEW2] at hHbx hBW2 hzW2 hX
    rw [hEbx] at hHbx hzW2
    clear hF2 hD2
    go_wp2_with fail
    refine (spec_PlayRun_ok h60 V vc _ hX).mono ?_
    rintro e w3 ⟨A3, c3, D3, d3, rfl, hF3, hD3, _, hb⟩
    have hs3 := hb.size
    have hB3 := hBW2.trans (hb.mono hBW2.size)
    replace hX := hX.below hb (Nat.le_refl _)
    replace hHbx := hHbx.below hb (Nat.le_refl _)
    clear hb
    have hHby' := Held.ok HOK.out c3 d3 hF3.fl hD3
    replace hX := hX.below ((Below.refl w3.heap.size w3).alloc (Nat.le_refl _) (.cells #[.slice A3 4 c3, .slice D3 6 d3] 28)) (Nat.le_refl _)
    replace hHbx := hHbx.below ((Below.refl w3.heap.size w3).alloc (Nat.le_refl _) (.cells #[.slice A3 4 c3, .slice D3 6 d3] 28)) (Nat.le_refl _)
    have hBW3 := hB3.alloc hB3.size (.cells #[.slice A3 4 c3, .slice D3 6 d3] 28)
    have hzW3 : (w3.alloc (.cells #[.slice A3 4 c3, .slice D3 6 d3] 28)).heap.size = w3.heap.size + 1 := by simp
    obtain ⟨W3, hEW3⟩ : ∃ W, w3.alloc (.cells #[.slice A3 4 c3, .slice D3 6 d3] 28) = W := ⟨_, rfl⟩
    obtain ⟨by', hEby'⟩ : ∃ b, w3.heap.size = b := ⟨_, rfl⟩
    rw [hEW3] at hHby' hBW3 hzW3 hX hHbx
    rw [hEby'] at hHby' hzW3
    clear hF3 hD3
    have x0 := hHbx.x0
    have x1 := hHbx.x1
    have y0 := hHby'.x0
    have y1 := hHby'.x1
    go_wp2_with fail
    refine (laws_lqStore_ok HOK.out A2 D2 A3 D3 c2 d2 c3 d3 _ hHbx.fl hHbx.dk hHby'.fl hHby'.dk).mono ?_
    rintro e w4 ⟨rfl, hb⟩
    have hB4 := hBW3.trans (hb.mono hBW3.size)
    replace hX := hX.below hb (Nat.le_refl _)
    replace hHbx := hHbx.below hb (Nat.le_refl _)
    replace x0 := hHbx.x0
    replace x1 := hHbx.x1
    clear hb hHby' y0 y1 hBW3 hBW2 hB3 hB2 hB1
    have hm : bs'.length ≤ 1048576 := by omega
    have hH5 := HeldF.new HOK.out c2 d2 hHbx.fl hHbx.dk
    obtain ⟨bt, hbt⟩ : ∃ b, w4.heap.size = b := ⟨_, rfl⟩
    rw [hbt] at hH5
    have HBT := Lib.hid hbt
    have HRR := Lib.hid (run_run es)
    clear hX
    go_wp2
    (try simp only [hbt])
    go_loopw [11] (fun i wr => ∃ (k : Nat) (Ak Dk : Option Addr) (ck dk : Nat), k ≤ 21 ∧ i = .int .i64 k ∧ HeldF wr bt Ak Dk ck dk (putMany (doRun es) bs'.length k) ∧ Below bt w4 wr) (fun i _ => 21 - (intOf i).toNat)
    case atStart => exact ⟨0, A2, D2, c2, d2, by omega, rfl, hH5, by have := HBT.out; refine Below.alloc (Below.refl _ _) ?_ _; omega⟩
    case round =>
      obtain ⟨k, Ak, Dk, ck, dk, hk, rfl, hHk, hBr⟩ := hrel
      clear hH5
      have hOKk := Lib.hid (putMany_run HRR.out bs'.length k).ok
      have z0 := hHk.held.x0
      have z1 := hHk.held.x1
      have z2 := hHk.f0
      have z3 := hHk.f1
      by_cases hlt : k < 21
      · have hk1 : (k : Int) < 21 := by omega
        have HRD := Lib.hid (putMany_read HRR.out h60 bs'.length k hlt)
        have e1 : IntKind.i64.wrap ((k : Int) + 1) = (k : Int) + 1 := IntWalk.i64_in _ (by omega)
        have e2 : IntKind.i64.wrap ((k : Int) + bs'.length) = (k : Int) + bs'.length := IntWalk.i64_in _ (by omega)
        have e3 : IntKind.i64.wrap (1 + ((k : Int) + bs'.length) % 6) = 1 + ((k : Int) + bs'.length) % 6 := IntWalk.i64_in _ (by omega)
        have e4 : IntKind.i64.wrap ((k : Int) * 3) = (k : Int) * 3 := IntWalk.i64_in _ (by omega)
        have e5 : IntKind.i64.wrap ((k : Int) * 3 + bs'.length) = (k : Int) * 3 + bs'.length := IntWalk.i64_in _ (by omega)
        have t1 : Int.tmod ((k : Int) + bs'.length) 6 = ((k : Int) + bs'.length) % 6 := Int.tmod_eq_emod_of_nonneg (by omega)
        have t2 : Int.tmod ((k : Int) * 3 + bs'.length) 10 = ((k : Int) * 3 + bs'.length) % 10 := Int.tmod_eq_emod_of_nonneg (by omega)
        have hOKn := Lib.hid (putMany_run HRR.out bs'.length (k + 1)).ok
        have hbt2 : bt < wr.heap.size := lt_of_cell hHk.held.x0
        have HA := Lib.hid (show 1 ≤ 1 + ((k : Int) + bs'.length) % 6 ∧ 1 + ((k : Int) + bs'.length) % 6 ≤ 6 by omega)
        go_wp2_with fail
        refine (impl_PlayDo_ok hOKk.out 1 (1 + ((k : Int) + bs'.length) % 6) (((k : Int) * 3 + bs'.length) % 10) 60 false Ak Dk ck dk _ hHk.held.fl hHk.held.dk).mono ?_
        rintro e w6 ⟨A6, c6, D6, d6, rfl, hF6, hD6, hl6, hb6⟩
        change FlAt w6 wr.heap.size A6 (putMany (doRun es) bs'.length (k + 1)).flash at hF6
        change Row w6 D6 (ints (putMany (doRun es) bs'.length (k + 1)).disk) at hD6
        have hP := (hHk.below hb6 (Nat.le_refl _)).put (c' := c6) (d' := d6) hOKn.out hF6 hbt2 hD6 hl6
        have hBn := ((hBr.trans (hb6.mono (by omega))).setCell (p := ⟨bt, 0, none⟩) (show bt ≤ bt from Nat.le_refl _) (.slice A6 4 c6)).setCell (p := ⟨bt, 1, none⟩) (show bt ≤ bt from Nat.le_refl _) (.slice D6 6 d6)
        have d0 := (hb6.cell (p := ⟨bt, 0, none⟩) hbt2).trans z0
        have d1 := (hb6.cell (p := ⟨bt, 1, none⟩) hbt2).trans z1
        have d2 := (hb6.frozen (p := ⟨bt, 0, none⟩) hbt2).trans z2
        have d3 := (hb6.frozen (p := ⟨bt, 1, none⟩) hbt2).trans z3
        have p0 := hP.held.x0
        have p1 := hP.held.x1
        clear hF6 hD6 hl6 hb6 z0 z1 z2 z3
        obtain ⟨T, HT⟩ : ∃ T, Hid (putMany (doRun es) bs'.length (k + 1) = T) := ⟨_, rfl⟩
        rw [HT.out] at hP hOKn HRD
        go_wp2_with fail
        refine (impl_StoreRead_ok hOKn.out HA.out.1 HA.out.2 A6 D6 c6 d6 _ hP.held.fl hP.held.dk).mono ?_
        rw [HRD.out]
        rintro e w7 ⟨rfl, hb⟩
        have hzz := hBn.size
        have hBz := hBn.trans (hb.mono (by have := lt_of_cell p0; omega))
        have hPz := hP.below hb (Nat.le_refl _)
        have hne : (((k : Int) * 3 + bs'.length) % 10 != ((k : Int) * 3 + bs'.length) % 10) = false := by simp
        clear hb hP hBn
        go_wp2
        go_roundw
        (case rel => exact ⟨k + 1, A6, D6, c6, d6, by omega, by go_num, by rw [HT.out]; exact hPz, hBz⟩)
        (case measure => simp [intOf]; omega)
      · have hk1 : ¬ (k : Int) < 21 := by omega
        have hbs := hBr.size
        go_wp2_with fail
        refine (impl_StoreOk_ok hOKk.out Ak Dk ck dk _ hHk.held.fl hHk.held.dk).mono ?_
        rintro e w7 ⟨rfl, hb⟩
        have hBf := hB4.trans ((hBr.trans (hb.mono (by have := lt_of_cell z0; omega))).mono (by have := hB4.size; have := HBT.out; omega))
        go_wp2
        go_ret
        exact ⟨rfl, hBf⟩
  · have h61 : 60 < es.length := by omega
    go_wp2_with fail
    refine (impl_PlayRun_no h61 (by omega) V vc _ hX).mono ?_
    rintro e w2 ⟨A2, c2, D2, d2, rfl, hb⟩
    have hs2 := hb.size
    have hB2 := hB1.trans (hb.mono hB1.size)
    replace hX := hX.below hb (Nat.le_refl _)
    clear hb
    have hHbx := Held.no w2 A2 D2 c2 d2
    replace hX := hX.below ((Below.refl w2.heap.size w2).alloc (Nat.le_refl _) (.cells #[.slice A2 0 c2, .slice D2 0 d2] 28)) (Nat.le_refl _)
    have hBW2 := hB2.alloc hB2.size (.cells #[.slice A2 0 c2, .slice D2 0 d2] 28)
    have hzW2 : (w2.alloc (.cells #[.slice A2 0 c2, .slice D2 0 d2] 28)).heap.size = w2.heap.size + 1 := by simp
    obtain ⟨W2, hEW2⟩ : ∃ W, w2.alloc (.cells #[.slice A2 0 c2, .slice D2 0 d2] 28) = W := ⟨_, rfl⟩
    obtain ⟨bx, hEbx⟩ : ∃ b, w2.heap.size = b := ⟨_, rfl⟩
    rw [hEW2] at hHbx hBW2 hzW2 hX
    rw [hEbx] at hHbx hzW2
    go_wp2_with fail
    refine (spec_PlayRun_no h61 (by omega) V vc _ hX).mono ?_
    rintro e w3 ⟨A3, c3, D3, d3, rfl, hb⟩
    have hs3 := hb.size
    have hB3 := hBW2.trans (hb.mono hBW2.size)
    replace hX := hX.below hb (Nat.le_refl _)
    replace hHbx := hHbx.below hb (Nat.le_refl _)
    clear hb
    have hHby' := Held.no w3 A3 D3 c3 d3
    replace hX := hX.below ((Below.refl w3.heap.size w3).alloc (Nat.le_refl _) (.cells #[.slice A3 0 c3, .slice D3 0 d3] 28)) (Nat.le_refl _)
    replace hHbx := hHbx.below ((Below.refl w3.heap.size w3).alloc (Nat.le_refl _) (.cells #[.slice A3 0 c3, .slice D3 0 d3] 28)) (Nat.le_refl _)
    have hBW3 := hB3.alloc hB3.size (.cells #[.slice A3 0 c3, .slice D3 0 d3] 28)
    have hzW3 : (w3.alloc (.cells #[.slice A3 0 c3, .slice D3 0 d3] 28)).heap.size = w3.heap.size + 1 := by simp
    obtain ⟨W3, hEW3⟩ : ∃ W, w3.alloc (.cells #[.slice A3 0 c3, .slice D3 0 d3] 28) = W := ⟨_, rfl⟩
    obtain ⟨by', hEby'⟩ : ∃ b, w3.heap.size = b := ⟨_, rfl⟩
    rw [hEW3] at hHby' hBW3 hzW3 hX hHbx
    rw [hEby'] at hHby' hzW3
    have x0 := hHbx.x0
    have x1 := hHbx.x1
    have y0 := hHby'.x0
    have y1 := hHby'.x1
    go_wp2_with fail
    refine (laws_lqStore_no A2 D2 A3 D3 c2 d2 c3 d3 _).mono ?_
    rintro e w4 ⟨rfl, hb⟩
    have hB4 := hBW3.trans (hb.mono hBW3.size)
    replace hX := hX.below hb (Nat.le_refl _)
    replace hHbx := hHbx.below hb (Nat.le_refl _)
    replace hHby' := hHby'.below hb (Nat.le_refl _)
    replace x0 := hHbx.x0
    replace x1 := hHbx.x1
    replace y0 := hHby'.x0
    replace y1 := hHby'.x1
    clear hb hBW3 hBW2 hB3 hB2 hB1
    go_wp2_with fail
    refine (laws_lqStore_no A2 D2 A3 D3 c2 d2 c3 d3 _).mono ?_
    rintro e w5 ⟨rfl, hb⟩
    have hB5 := hB4.trans (hb.mono hB4.size)
    go_wp2
    go_ret
    exact ⟨rfl, hB5⟩
end Go.Proofs.Ytohkoogmbfaceaa
