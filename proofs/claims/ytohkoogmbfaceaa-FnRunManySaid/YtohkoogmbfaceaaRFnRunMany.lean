/- Walks: laws over plays: FnRunMany. -/
import Derived.Test.YtohkoogmbfaceaaZ7
namespace Go.Proofs.Ytohkoogmbfaceaa
set_option linter.unusedVariables false
set_option linter.unusedSimpArgs false
open Go.RowKit Go.Maps
set_option maxHeartbeats 400000
set_option maxHeartbeats 8000000 in
set_option maxRecDepth 100000 in
theorem law_FnRunMany {w : World} (A : Option Addr) (bs : List Nat) (c : Nat) (hc : Code w A bs c) :
    Calls Try.prog 6 #[.slice A bs.length c] w fun e w' => e = .returned (.bool true) ∧ Below w.heap.size w w' := by
  by_cases hlen : (1048576 : Int) < bs.length
  · go_enter Try.func6, Try.ntmps6
    go_wp2
    go_ret
    exact ⟨rfl, Below.refl _ _⟩
  go_enter Try.func6, Try.ntmps6
  go_wp2_with fail
  refine (spec_DrawPlayRun A bs c _ hc).mono ?_
  rintro e w1 ⟨v, es, rfl, hE, hel, hef, hB1⟩
  obtain ⟨V, vc, rfl, hX, _, _⟩ := hE.out
  have hs1 := hB1.size
  have HEF := Lib.hid hef
  clear hE hef
  by_cases h60 : es.length ≤ 60
  · have HOK := Lib.hid (run_run es).ok
    go_wp2_with fail
    refine (impl_PlayRun_ok h60 V vc _ hX).mono ?_
    rintro e w2 ⟨A2, c2, D2, d2, rfl, hF2, hD2, _, hb⟩
    have hs2 := hb.size
    have hB2 := hB1.trans (hb.mono hB1.size)
    replace hX := hX.below hb (Nat.le_refl _)
    clear hb
    have hHbx := Held.ok HOK.out c2 d2 hF2.fl hD2
    replace hX := hX.below ((Below.refl w2.heap.size w2).alloc (Nat.le_refl _) (.cells #[.slice A2 4 c2, .slice D2 6 d2] 28)) (Nat.le_refl _)
    have hBW2 := hB2.alloc hB2.size (.cells #[.slice A2 4 c2, .slice D2 6 d2] 28)
    have hzW2 : (w2.alloc (.cells #[.slice A2 4 c2, .slice D2 6 d2] 28)).heap.size = w2.heap.size + 1 := by simp
    obtain ⟨W2, hEW2⟩ : ∃ W, w2.alloc (.cells #[.slice A2 4 c2, .slice D2 6 d2] 28) = W := ⟨_, rfl⟩
    obtain ⟨bx, hEbx⟩ : ∃ b, w2.heap.size = b := ⟨_, rfl⟩
    rw [hEW2] at hHbx hBW2 hzW2 hX
    rw [hEbx] at hHbx hzW2
    clear hF2 hD2
    go_wp2_with fail
    refine (spec_PlayRun_ok h60 V vc _ hX).mono ?_
    rintro e w3 ⟨A3, c3, D3, d3, rfl, hF3, hD3, _, hb⟩
    have hs3 := hb.size
    have hB3 := hBW2.trans (hb.mono hBW2.size)
    replace hX := hX.below hb (Nat.le_refl _)
    replace hHbx := hHbx.below hb (Nat.le_refl _)
    clear hb
    have hHby' := Held.ok HOK.out c3 d3 hF3.fl hD3
    replace hX := hX.below ((Below.refl w3.heap.size w3).alloc (Nat.le_refl _) (.cells #[.slice A3 4 c3, .slice D3 6 d3] 28)) (Nat.le_refl _)
    replace hHbx := hHbx.below ((Below.refl w3.heap.size w3).alloc (Nat.le_refl _) (.cells #[.slice A3 4 c3, .slice D3 6 d3] 28)) (Nat.le_refl _)
    have hBW3 := hB3.alloc hB3.size (.cells #[.slice A3 4 c3, .slice D3 6 d3] 28)
    have hzW3 : (w3.alloc (.cells #[.slice A3 4 c3, .slice D3 6 d3] 28)).heap.size = w3.heap.size + 1 := by simp
    obtain ⟨W3, hEW3⟩ : ∃ W, w3.alloc (.cells #[.slice A3 4 c3, .slice D3 6 d3] 28) = W := ⟨_, rfl⟩
    obtain ⟨by', hEby'⟩ : ∃ b, w3.heap.size = b := ⟨_, rfl⟩
    rw [hEW3] at hHby' hBW3 hzW3 hX hHbx
    rw [hEby'] at hHby' hzW3
    clear hF3 hD3
    have x0 := hHbx.x0
    have x1 := hHbx.x1
    have y0 := hHby'.x0
    have y1 := hHby'.x1
    go_wp2_with fail
    refine (laws_lqStore_ok HOK.out A2 D2 A3 D3 c2 d2 c3 d3 _ hHbx.fl hHbx.dk hHby'.fl hHby'.dk).mono ?_
    rintro e w4 ⟨rfl, hb⟩
    have hB4 := hBW3.trans (hb.mono hBW3.size)
    replace hX := hX.below hb (Nat.le_refl _)
    replace hHbx := hHbx.below hb (Nat.le_refl _)
    replace x0 := hHbx.x0
    replace x1 := hHbx.x1
    clear hb hHby' y0 y1 hBW3 hBW2 hB3 hB2 hB1
    have hz4 := hB4.size
    have hOn : OwnE (w4.alloc (.cells #[] 34)) w4.heap.size (.slice (some ⟨w4.heap.size, 0, none⟩) 0 0) [] := OwnE.nil w4 _ (Nat.le_refl _)
    have hXn := hX.alloc (.cells #[] 34)
    have hBn : Below w4.heap.size w4 (w4.alloc (.cells #[] 34)) := by (repeat (first | (with_reducible exact Below.refl _ _) | (with_reducible assumption) | (refine Below.setCell ?_ (by first | omega | exact hB.size | exact hb.size | (have h := hB.size; simp; omega) | (have h := hb.size; simp; omega) | (simp; omega) | simp) _) | (refine Below.alloc ?_ (by first | omega | exact hB.size | exact hb.size | (have h := hB.size; simp; omega) | (have h := hb.size; simp; omega) | (simp; omega) | simp) _) | (refine Below.drew ?_)))
    go_wp2_with (at_builtin; refine wpList_evs_any rfl (.tmp 39) (.tmp 40) rfl w4.heap.size (.slice (some ⟨w4.heap.size, 0, none⟩) 0 0) [] es rfl hOn V es.length es.length vc rfl rfl (by simp) hXn (by omega) (by simp) ?_; intro A9 c9 w7 hO7 hB7)
    rw [List.nil_append] at hO7
    have hB7' := hBn.trans hB7
    have hz7 : w4.heap.size ≤ w7.heap.size := hB7'.size
    clear hOn hXn hBn hB7
    go_wp2
    go_loopw [8] (fun t wr => ∃ ys : List Ev, OwnE wr w4.heap.size t ys ∧ ys.length ≤ 61 ∧ Below w4.heap.size w4 wr) (fun t _ => 61 - slLen t)
    case atStart => exact ⟨es, hO7, hel, hB7'⟩
    case round =>
      obtain ⟨ys, hO, hyl, hBr⟩ := hrel
      rename World => wo
      have hzo := hBr.size
      clear hO7 hB7'
      obtain ⟨At, ct, rfl, hRy, _, hct⟩ := hO.out
      by_cases hlt : ys.length < 60
      · have hk1 : (ys.length : Int) < 60 := by omega
        have hOl := hO.alloc (.cells #[.int .i64 3, .int .i64 1, .int .i64 0, .int .i64 1, .bool false] 34)
        have hBl : Below w4.heap.size w4 (wo.alloc (.cells #[.int .i64 3, .int .i64 1, .int .i64 0, .int .i64 1, .bool false] 34)) := hBr.alloc hzo _
        clear hO hRy
        go_wp2_with (at_builtin; refine wpList_evs rfl (.tmp 45) (.tmp 47) rfl w4.heap.size (.slice At ys.length ct) ys [⟨3, 1, 0, 1, false⟩] rfl hOl wo.heap.size 0 1 (ys.length + 1) 1 rfl rfl rfl (Row.new wo #[.int .i64 3, .int .i64 1, .int .i64 0, .int .i64 1, .bool false] 34) (by omega) (by omega) (by simp; omega) ?_; intro g7 c7 w8 hO8 hB8)
        have hBz : Below w4.heap.size w4 w8 := hBl.trans hB8
        clear hBl hB8 hOl
        go_wp2
        go_roundw
        (case rel => exact ⟨ys ++ [⟨3, 1, 0, 1, false⟩], hO8, by simp; omega, hBz⟩)
        (case measure => simp [slLen]; omega)
      · have hk1 : ¬ (ys.length : Int) < 60 := by omega
        have hk2 : (60 : Int) ≤ ct := by omega
        have hBh := hB4.trans (hBr.mono hz4)
        go_wp2_with fail
        refine (impl_PlayRun_n (es := ys.take 60) (by rw [List.length_take]; omega) At 60 ct (by rw [List.length_take]; omega) _ (hRy.evs_take 60)).mono ?_
        rintro e w8 ⟨A8, c8, D8, d8, rfl, hF8, hD8, _, hb⟩
        have hz8 := hb.size
        have hB8 := hBr.trans (hb.mono hzo)
        have hO8 := hO.below hb (Nat.le_refl _)
        clear hb hF8 hD8 hO hRy hBr
        have hOl := (hO8.alloc (.cells #[.slice A8 4 c8, .slice D8 6 d8] 28)).alloc (.cells #[.int .i64 0, .int .i64 0, .int .i64 0, .int .i64 0, .bool false] 34)
        have hBl : Below w4.heap.size w4 ((w8.alloc (.cells #[.slice A8 4 c8, .slice D8 6 d8] 28)).alloc (.cells #[.int .i64 0, .int .i64 0, .int .i64 0, .int .i64 0, .bool false] 34)) := (hB8.alloc (by omega) _).alloc (by simp; omega) _
        clear hO8 hB8
        go_wp2_with (at_builtin; refine wpList_evs rfl (.tmp 56) (.tmp 58) rfl w4.heap.size (.slice At ys.length ct) ys [⟨0, 0, 0, 0, false⟩] rfl hOl _ 0 1 (ys.length + 1) 1 rfl rfl rfl (by have h := Row.new (w8.alloc (.cells #[.slice A8 4 c8, .slice D8 6 d8] 28)) #[.int .i64 0, .int .i64 0, .int .i64 0, .int .i64 0, .bool false] 34; simp only [World.size_alloc] at h; exact h) (by omega) (by omega) (by simp; omega) ?_; intro g7 c7 w9 hO9 hB9)
        have hBz : Below w4.heap.size w4 w9 := hBl.trans hB9
        have hBy := hB4.trans (hBz.mono hz4)
        obtain ⟨_, _, e9, hR9, _, _⟩ := hO9.out
        simp only [Value.slice.injEq] at e9
        obtain ⟨rfl, -, rfl⟩ := e9
        clear hBl hB9 hOl hO9
        go_wp2_with fail
        refine (impl_PlayRun_big (es := ys ++ [⟨0, 0, 0, 0, false⟩]) (by simp; omega) (by simp; omega) (some ⟨g7, 0, none⟩) (ys.length + 1) c7 (by simp) _ hR9).mono ?_
        rintro e w10 ⟨A11, c11, D11, d11, rfl, hb⟩
        have hB10 := hBy.trans (hb.mono hBy.size)
        clear hb hR9
        have hB11 := hB10.alloc hB10.size (.cells #[.slice A11 0 c11, .slice D11 0 d11] 28)
        go_wp2_with fail
        refine (impl_PlayRun_n (es := []) (by simp) none 0 0 rfl _ (Row.nil _ _)).mono ?_
        rintro e w12 ⟨A12, c12, D12, d12, rfl, hF12, hD12, _, hb⟩
        have hB12 := hB11.trans (hb.mono hB11.size)
        change FlAt w12 _ A12 new0.flash at hF12
        change Row w12 D12 (ints new0.disk) at hD12
        clear hb
        have hHbt := Held.ok new_okay c12 d12 hF12.fl hD12
        have hBW12 := hB12.alloc hB12.size (.cells #[.slice A12 4 c12, .slice D12 6 d12] 28)
        have hzW12 : (w12.alloc (.cells #[.slice A12 4 c12, .slice D12 6 d12] 28)).heap.size = w12.heap.size + 1 := by simp
        obtain ⟨W12, hEW12⟩ : ∃ W, w12.alloc (.cells #[.slice A12 4 c12, .slice D12 6 d12] 28) = W := ⟨_, rfl⟩
        obtain ⟨bt, hEbt⟩ : ∃ b, w12.heap.size = b := ⟨_, rfl⟩
        rw [hEW12] at hHbt hBW12 hzW12
        rw [hEbt] at hHbt hzW12
        have t0 := hHbt.x0
        have t1 := hHbt.x1
        clear hF12 hD12 hB12 hB11 hB10
        (try clear x0 x1)
        have ht := Lib.hid (fun X (h : Below W12.drew.heap.size W12.drew X) => hHbt.drew.below h (Nat.le_refl _))
        have hvb : Below W12.drew.heap.size W12.drew W12.drew := Below.refl _ _
        have hvd : Below w.heap.size w W12.drew := hBW12.drew
        clear hHbt
        go_wp2
        refine wp_region_held_drew (S := fun X => X.cell? ⟨bt, 0, none⟩ = some (.slice A12 4 c12) ∧ X.cell? ⟨bt, 1, none⟩ = some (.slice D12 6 d12)) (by kernel_rfl) ⟨(ht.out _ hvb).x0, (ht.out _ hvb).x1⟩ (fun hHeld0 => ?_)
        refine wpAnyH_take (i := 0) (v := ?va1) rfl (by kernel_rfl) (by kernel_rfl) (by kernel_rfl) (fun _ _ _ h => h) (Or.inl ⟨by kernel_rfl, ?ya1⟩) hHeld0 ?ra1
        case ya1 => (intro w' hS; (try dsimp only at hS); obtain ⟨s0, s1⟩ := hS; (try go_simp); (try with_reducible rfl))
        try simp only [Act.put, List.getElem_toArray, List.getElem_cons_zero, List.getElem_cons_succ, List.setIfInBounds_toArray, List.set_cons_zero, List.set_cons_succ]
        refine wpAnyH_take (i := 1) (v := ?va2) rfl (by kernel_rfl) (by kernel_rfl) (by kernel_rfl) (fun _ _ _ h => h) (Or.inl ⟨by kernel_rfl, ?ya2⟩) hHeld0 ?ra2
        case ya2 => (intro w' hS; (try dsimp only at hS); obtain ⟨s0, s1⟩ := hS; (try go_simp); (try with_reducible rfl))
        try simp only [Act.put, List.getElem_toArray, List.getElem_cons_zero, List.getElem_cons_succ, List.setIfInBounds_toArray, List.set_cons_zero, List.set_cons_succ]
        refine wpAnyH_take (i := 2) (v := ?va3) rfl (by kernel_rfl) (by kernel_rfl) (by kernel_rfl) (fun _ _ _ h => h) (Or.inl ⟨by kernel_rfl, ?ya3⟩) hHeld0 ?ra3
        case ya3 => (intro w' hS; (try dsimp only at hS); obtain ⟨s0, s1⟩ := hS; (try go_simp); (try with_reducible rfl))
        try simp only [Act.put, List.getElem_toArray, List.getElem_cons_zero, List.getElem_cons_succ, List.setIfInBounds_toArray, List.set_cons_zero, List.set_cons_succ]
        refine wpAnyH_take (i := 3) (v := ?va4) rfl (by kernel_rfl) (by kernel_rfl) (by kernel_rfl) (fun _ _ _ h => h) (Or.inl ⟨by kernel_rfl, ?ya4⟩) hHeld0 ?ra4
        case ya4 => (intro w' hS; (try dsimp only at hS); obtain ⟨s0, s1⟩ := hS; (try go_simp); (try with_reducible rfl))
        try simp only [Act.put, List.getElem_toArray, List.getElem_cons_zero, List.getElem_cons_succ, List.setIfInBounds_toArray, List.set_cons_zero, List.set_cons_succ]
        refine wpAnyH_take (i := 4) (v := ?va5) rfl (by kernel_rfl) (by kernel_rfl) (by kernel_rfl) (fun _ _ _ h => h) (Or.inl ⟨by kernel_rfl, ?ya5⟩) hHeld0 ?ra5
        case ya5 => (intro w' hS; (try dsimp only at hS); obtain ⟨s0, s1⟩ := hS; (try go_simp); (try with_reducible rfl))
        try simp only [Act.put, List.getElem_toArray, List.getElem_cons_zero, List.getElem_cons_succ, List.setIfInBounds_toArray, List.set_cons_zero, List.set_cons_succ]
        refine wpAnyH_take (i := 5) (v := ?va6) rfl (by kernel_rfl) (by kernel_rfl) (by kernel_rfl) (fun _ _ _ h => h) (Or.inl ⟨by kernel_rfl, ?ya6⟩) hHeld0 ?ra6
        case ya6 => (intro w' hS; (try dsimp only at hS); obtain ⟨s0, s1⟩ := hS; (try go_simp); (try with_reducible rfl))
        try simp only [Act.put, List.getElem_toArray, List.getElem_cons_zero, List.getElem_cons_succ, List.setIfInBounds_toArray, List.set_cons_zero, List.set_cons_succ]
        refine wpAnyH_take (i := 6) (v := ?va7) rfl (by kernel_rfl) (by kernel_rfl) (by kernel_rfl) (fun _ _ _ h => h) (Or.inl ⟨by kernel_rfl, ?ya7⟩) hHeld0 ?ra7
        case ya7 => (intro w' hS; (try dsimp only at hS); obtain ⟨s0, s1⟩ := hS; (try go_simp); (try with_reducible rfl))
        try simp only [Act.put, List.getElem_toArray, List.getElem_cons_zero, List.getElem_cons_succ, List.setIfInBounds_toArray, List.set_cons_zero, List.set_cons_succ]
        refine wpAnyH_take (i := 7) (v := ?va8) rfl (by kernel_rfl) (by kernel_rfl) (by kernel_rfl) (fun _ _ _ h => h) (Or.inl ⟨by kernel_rfl, ?ya8⟩) hHeld0 ?ra8
        case ya8 => (intro w' hS; (try dsimp only at hS); obtain ⟨s0, s1⟩ := hS; (try go_simp); (try with_reducible rfl))
        try simp only [Act.put, List.getElem_toArray, List.getElem_cons_zero, List.getElem_cons_succ, List.setIfInBounds_toArray, List.set_cons_zero, List.set_cons_succ]
        refine wpAnyH_take (i := 8) (v := ?va9) rfl (by kernel_rfl) (by kernel_rfl) (by kernel_rfl) (fun _ _ _ h => h) (Or.inl ⟨by kernel_rfl, ?ya9⟩) hHeld0 ?ra9
        case ya9 => (intro w' hS; (try dsimp only at hS); obtain ⟨s0, s1⟩ := hS; (try go_simp); (try with_reducible rfl))
        try simp only [Act.put, List.getElem_toArray, List.getElem_cons_zero, List.getElem_cons_succ, List.setIfInBounds_toArray, List.set_cons_zero, List.set_cons_succ]
        refine wpAnyH_take (i := 9) (v := ?va10) rfl (by kernel_rfl) (by kernel_rfl) (by kernel_rfl) (fun _ _ _ h => h) (Or.inl ⟨by kernel_rfl, ?ya10⟩) hHeld0 ?ra10
        case ya10 => (intro w' hS; (try dsimp only at hS); obtain ⟨s0, s1⟩ := hS; (try go_simp); (try with_reducible rfl))
        try simp only [Act.put, List.getElem_toArray, List.getElem_cons_zero, List.getElem_cons_succ, List.setIfInBounds_toArray, List.set_cons_zero, List.set_cons_succ]
        refine wpAnyH_ready (rs := [10]) (by kernel_rfl) (by simp) ?_
        refine AllReadyH.cons rfl (fun K hK => ?_) AllReadyH.nil
        go_simp
        refine (impl_StoreNew _).mono ?_
        rintro e au1 ⟨A13, c13, D13, rfl, hc13, hO13, hc⟩
        have ab1 := hvb.trans (hc.mono hvb.size)
        clear hc
        go_wp2_with fail
        refine hK.out _ _ (⟨(ht.out _ ab1).x0, (ht.out _ ab1).x1⟩) (fun hHa1 => ?_)
        clear hK K
        try simp only [Act.put, List.getElem_toArray, List.getElem_cons_zero, List.getElem_cons_succ, List.setIfInBounds_toArray, List.set_cons_zero, List.set_cons_succ]
        refine wpAnyH_ready (rs := [11]) (by kernel_rfl) (by simp) ?_
        refine AllReadyH.cons rfl (fun K hK => ?_) AllReadyH.nil
        go_simp
        refine (laws_lqStore_ok new_okay A12 D12 A13 D13 c12 d12 c13 6 _ (ht.out _ ab1).fl (ht.out _ ab1).dk hO13.ofl.fl hO13.disk).mono ?_
        rintro e au2 ⟨rfl, hc⟩
        have ab2 := ab1.trans (hc.mono ab1.size)
        clear hc
        go_wp2_with fail
        refine hK.out _ _ (⟨(ht.out _ ab2).x0, (ht.out _ ab2).x1⟩) (fun hHa2 => ?_)
        clear hK K
        try simp only [Act.put, List.getElem_toArray, List.getElem_cons_zero, List.getElem_cons_succ, List.setIfInBounds_toArray, List.set_cons_zero, List.set_cons_succ]
        refine wpAnyH_take (i := 12) (v := ?va11) rfl (by kernel_rfl) (by kernel_rfl) (by kernel_rfl) (fun _ _ _ h => h) (Or.inl ⟨by kernel_rfl, ?ya11⟩) hHa2 ?ra11
        case ya11 => (intro w' hS; (try dsimp only at hS); obtain ⟨s0, s1⟩ := hS; (try go_simp); (try with_reducible rfl))
        try simp only [Act.put, List.getElem_toArray, List.getElem_cons_zero, List.getElem_cons_succ, List.setIfInBounds_toArray, List.set_cons_zero, List.set_cons_succ]
        refine wpAnyH_take (i := 13) (v := ?va12) rfl (by kernel_rfl) (by kernel_rfl) (by kernel_rfl) (fun _ _ _ h => h) (Or.inl ⟨by kernel_rfl, ?ya12⟩) hHa2 ?ra12
        case ya12 => (intro w' hS; (try dsimp only at hS); obtain ⟨s0, s1⟩ := hS; (try go_simp); (try with_reducible rfl))
        try simp only [Act.put, List.getElem_toArray, List.getElem_cons_zero, List.getElem_cons_succ, List.setIfInBounds_toArray, List.set_cons_zero, List.set_cons_succ]
        refine wpAnyH_done (by kernel_rfl) ?_ _
        have hBf := hvd.trans (ab2.mono (by have h := hvd.size; exact h))
        go_wp2
        go_ret
        exact ⟨rfl, hBf⟩
  · have h61 : 60 < es.length := by omega
    go_wp2_with fail
    refine (impl_PlayRun_no h61 (by omega) V vc _ hX).mono ?_
    rintro e w2 ⟨A2, c2, D2, d2, rfl, hb⟩
    have hs2 := hb.size
    have hB2 := hB1.trans (hb.mono hB1.size)
    replace hX := hX.below hb (Nat.le_refl _)
    clear hb
    have hHbx := Held.no w2 A2 D2 c2 d2
    replace hX := hX.below ((Below.refl w2.heap.size w2).alloc (Nat.le_refl _) (.cells #[.slice A2 0 c2, .slice D2 0 d2] 28)) (Nat.le_refl _)
    have hBW2 := hB2.alloc hB2.size (.cells #[.slice A2 0 c2, .slice D2 0 d2] 28)
    have hzW2 : (w2.alloc (.cells #[.slice A2 0 c2, .slice D2 0 d2] 28)).heap.size = w2.heap.size + 1 := by simp
    obtain ⟨W2, hEW2⟩ : ∃ W, w2.alloc (.cells #[.slice A2 0 c2, .slice D2 0 d2] 28) = W := ⟨_, rfl⟩
    obtain ⟨bx, hEbx⟩ : ∃ b, w2.heap.size = b := ⟨_, rfl⟩
    rw [hEW2] at hHbx hBW2 hzW2 hX
    rw [hEbx] at hHbx hzW2
    go_wp2_with fail
    refine (spec_PlayRun_no h61 (by omega) V vc _ hX).mono ?_
    rintro e w3 ⟨A3, c3, D3, d3, rfl, hb⟩
    have hs3 := hb.size
    have hB3 := hBW2.trans (hb.mono hBW2.size)
    replace hX := hX.below hb (Nat.le_refl _)
    replace hHbx := hHbx.below hb (Nat.le_refl _)
    clear hb
    have hHby' := Held.no w3 A3 D3 c3 d3
    replace hX := hX.below ((Below.refl w3.heap.size w3).alloc (Nat.le_refl _) (.cells #[.slice A3 0 c3, .slice D3 0 d3] 28)) (Nat.le_refl _)
    replace hHbx := hHbx.below ((Below.refl w3.heap.size w3).alloc (Nat.le_refl _) (.cells #[.slice A3 0 c3, .slice D3 0 d3] 28)) (Nat.le_refl _)
    have hBW3 := hB3.alloc hB3.size (.cells #[.slice A3 0 c3, .slice D3 0 d3] 28)
    have hzW3 : (w3.alloc (.cells #[.slice A3 0 c3, .slice D3 0 d3] 28)).heap.size = w3.heap.size + 1 := by simp
    obtain ⟨W3, hEW3⟩ : ∃ W, w3.alloc (.cells #[.slice A3 0 c3, .slice D3 0 d3] 28) = W := ⟨_, rfl⟩
    obtain ⟨by', hEby'⟩ : ∃ b, w3.heap.size = b := ⟨_, rfl⟩
    rw [hEW3] at hHby' hBW3 hzW3 hX hHbx
    rw [hEby'] at hHby' hzW3
    have x0 := hHbx.x0
    have x1 := hHbx.x1
    have y0 := hHby'.x0
    have y1 := hHby'.x1
    go_wp2_with fail
    refine (laws_lqStore_no A2 D2 A3 D3 c2 d2 c3 d3 _).mono ?_
    rintro e w4 ⟨rfl, hb⟩
    have hB4 := hBW3.trans (hb.mono hBW3.size)
    replace hX := hX.below hb (Nat.le_refl _)
    replace hHbx := hHbx.below hb (Nat.le_refl _)
    replace hHby' := hHby'.below hb (Nat.le_refl _)
    replace x0 := hHbx.x0
    replace x1 := hHbx.x1
    replace y0 := hHby'.x0
    replace y1 := hHby'.x1
    clear hb hBW3 hBW2 hB3 hB2 hB1
    have hz4 := hB4.size
    have hOn : OwnE (w4.alloc (.cells #[] 34)) w4.heap.size (.slice (some ⟨w4.heap.size, 0, none⟩) 0 0) [] := OwnE.nil w4 _ (Nat.le_refl _)
    have hXn := hX.alloc (.cells #[] 34)
    have hBn : Below w4.heap.size w4 (w4.alloc (.cells #[] 34)) := by (repeat (first | (with_reducible exact Below.refl _ _) | (with_reducible assumption) | (refine Below.setCell ?_ (by first | omega | exact hB.size | exact hb.size | (have h := hB.size; simp; omega) | (have h := hb.size; simp; omega) | (simp; omega) | simp) _) | (refine Below.alloc ?_ (by first | omega | exact hB.size | exact hb.size | (have h := hB.size; simp; omega) | (have h := hb.size; simp; omega) | (simp; omega) | simp) _) | (refine Below.drew ?_)))
    go_wp2_with (at_builtin; refine wpList_evs_any rfl (.tmp 39) (.tmp 40) rfl w4.heap.size (.slice (some ⟨w4.heap.size, 0, none⟩) 0 0) [] es rfl hOn V es.length es.length vc rfl rfl (by simp) hXn (by omega) (by simp) ?_; intro A9 c9 w7 hO7 hB7)
    rw [List.nil_append] at hO7
    have hB7' := hBn.trans hB7
    have hz7 : w4.heap.size ≤ w7.heap.size := hB7'.size
    clear hOn hXn hBn hB7
    go_wp2
    go_loopw [8] (fun t wr => ∃ ys : List Ev, OwnE wr w4.heap.size t ys ∧ ys.length ≤ 61 ∧ Below w4.heap.size w4 wr) (fun t _ => 61 - slLen t)
    case atStart => exact ⟨es, hO7, hel, hB7'⟩
    case round =>
      obtain ⟨ys, hO, hyl, hBr⟩ := hrel
      rename World => wo
      have hzo := hBr.size
      clear hO7 hB7'
      obtain ⟨At, ct, rfl, hRy, _, hct⟩ := hO.out
      by_cases hlt : ys.length < 60
      · have hk1 : (ys.length : Int) < 60 := by omega
        have hOl := hO.alloc (.cells #[.int .i64 3, .int .i64 1, .int .i64 0, .int .i64 1, .bool false] 34)
        have hBl : Below w4.heap.size w4 (wo.alloc (.cells #[.int .i64 3, .int .i64 1, .int .i64 0, .int .i64 1, .bool false] 34)) := hBr.alloc hzo _
        clear hO hRy
        go_wp2_with (at_builtin; refine wpList_evs rfl (.tmp 45) (.tmp 47) rfl w4.heap.size (.slice At ys.length ct) ys [⟨3, 1, 0, 1, false⟩] rfl hOl wo.heap.size 0 1 (ys.length + 1) 1 rfl rfl rfl (Row.new wo #[.int .i64 3, .int .i64 1, .int .i64 0, .int .i64 1, .bool false] 34) (by omega) (by omega) (by simp; omega) ?_; intro g7 c7 w8 hO8 hB8)
        have hBz : Below w4.heap.size w4 w8 := hBl.trans hB8
        clear hBl hB8 hOl
        go_wp2
        go_roundw
        (case rel => exact ⟨ys ++ [⟨3, 1, 0, 1, false⟩], hO8, by simp; omega, hBz⟩)
        (case measure => simp [slLen]; omega)
      · have hk1 : ¬ (ys.length : Int) < 60 := by omega
        have hk2 : (60 : Int) ≤ ct := by omega
        have hBh := hB4.trans (hBr.mono hz4)
        go_wp2_with fail
        refine (impl_PlayRun_n (es := ys.take 60) (by rw [List.length_take]; omega) At 60 ct (by rw [List.length_take]; omega) _ (hRy.evs_take 60)).mono ?_
        rintro e w8 ⟨A8, c8, D8, d8, rfl, hF8, hD8, _, hb⟩
        have hz8 := hb.size
        have hB8 := hBr.trans (hb.mono hzo)
        have hO8 := hO.below hb (Nat.le_refl _)
        clear hb hF8 hD8 hO hRy hBr
        have hOl := (hO8.alloc (.cells #[.slice A8 4 c8, .slice D8 6 d8] 28)).alloc (.cells #[.int .i64 0, .int .i64 0, .int .i64 0, .int .i64 0, .bool false] 34)
        have hBl : Below w4.heap.size w4 ((w8.alloc (.cells #[.slice A8 4 c8, .slice D8 6 d8] 28)).alloc (.cells #[.int .i64 0, .int .i64 0, .int .i64 0, .int .i64 0, .bool false] 34)) := (hB8.alloc (by omega) _).alloc (by simp; omega) _
        clear hO8 hB8
        go_wp2_with (at_builtin; refine wpList_evs rfl (.tmp 56) (.tmp 58) rfl w4.heap.size (.slice At ys.length ct) ys [⟨0, 0, 0, 0, false⟩] rfl hOl _ 0 1 (ys.length + 1) 1 rfl rfl rfl (by have h := Row.new (w8.alloc (.cells #[.slice A8 4 c8, .slice D8 6 d8] 28)) #[.int .i64 0, .int .i64 0, .int .i64 0, .int .i64 0, .bool false] 34; simp only [World.size_alloc] at h; exact h) (by omega) (by omega) (by simp; omega) ?_; intro g7 c7 w9 hO9 hB9)
        have hBz : Below w4.heap.size w4 w9 := hBl.trans hB9
        have hBy := hB4.trans (hBz.mono hz4)
        obtain ⟨_, _, e9, hR9, _, _⟩ := hO9.out
        simp only [Value.slice.injEq] at e9
        obtain ⟨rfl, -, rfl⟩ := e9
        clear hBl hB9 hOl hO9
        go_wp2_with fail
        refine (impl_PlayRun_big (es := ys ++ [⟨0, 0, 0, 0, false⟩]) (by simp; omega) (by simp; omega) (some ⟨g7, 0, none⟩) (ys.length + 1) c7 (by simp) _ hR9).mono ?_
        rintro e w10 ⟨A11, c11, D11, d11, rfl, hb⟩
        have hB10 := hBy.trans (hb.mono hBy.size)
        clear hb hR9
        have hB11 := hB10.alloc hB10.size (.cells #[.slice A11 0 c11, .slice D11 0 d11] 28)
        go_wp2_with fail
        refine (impl_PlayRun_n (es := []) (by simp) none 0 0 rfl _ (Row.nil _ _)).mono ?_
        rintro e w12 ⟨A12, c12, D12, d12, rfl, hF12, hD12, _, hb⟩
        have hB12 := hB11.trans (hb.mono hB11.size)
        change FlAt w12 _ A12 new0.flash at hF12
        change Row w12 D12 (ints new0.disk) at hD12
        clear hb
        have hHbt := Held.ok new_okay c12 d12 hF12.fl hD12
        have hBW12 := hB12.alloc hB12.size (.cells #[.slice A12 4 c12, .slice D12 6 d12] 28)
        have hzW12 : (w12.alloc (.cells #[.slice A12 4 c12, .slice D12 6 d12] 28)).heap.size = w12.heap.size + 1 := by simp
        obtain ⟨W12, hEW12⟩ : ∃ W, w12.alloc (.cells #[.slice A12 4 c12, .slice D12 6 d12] 28) = W := ⟨_, rfl⟩
        obtain ⟨bt, hEbt⟩ : ∃ b, w12.heap.size = b := ⟨_, rfl⟩
        rw [hEW12] at hHbt hBW12 hzW12
        rw [hEbt] at hHbt hzW12
        have t0 := hHbt.x0
        have t1 := hHbt.x1
        clear hF12 hD12 hB12 hB11 hB10
        (try clear x0 x1)
        have ht := Lib.hid (fun X (h : Below W12.drew.heap.size W12.drew X) => hHbt.drew.below h (Nat.le_refl _))
        have hvb : Below W12.drew.heap.size W12.drew W12.drew := Below.refl _ _
        have hvd : Below w.heap.size w W12.drew := hBW12.drew
        clear hHbt
        go_wp2
        refine wp_region_held_drew (S := fun X => X.cell? ⟨bt, 0, none⟩ = some (.slice A12 4 c12) ∧ X.cell? ⟨bt, 1, none⟩ = some (.slice D12 6 d12)) (by kernel_rfl) ⟨(ht.out _ hvb).x0, (ht.out _ hvb).x1⟩ (fun hHeld0 => ?_)
        refine wpAnyH_take (i := 0) (v := ?vb1) rfl (by kernel_rfl) (by kernel_rfl) (by kernel_rfl) (fun _ _ _ h => h) (Or.inl ⟨by kernel_rfl, ?yb1⟩) hHeld0 ?rb1
        case yb1 => (intro w' hS; (try dsimp only at hS); obtain ⟨s0, s1⟩ := hS; (try go_simp); (try with_reducible rfl))
        try simp only [Act.put, List.getElem_toArray, List.getElem_cons_zero, List.getElem_cons_succ, List.setIfInBounds_toArray, List.set_cons_zero, List.set_cons_succ]
        refine wpAnyH_take (i := 1) (v := ?vb2) rfl (by kernel_rfl) (by kernel_rfl) (by kernel_rfl) (fun _ _ _ h => h) (Or.inl ⟨by kernel_rfl, ?yb2⟩) hHeld0 ?rb2
        case yb2 => (intro w' hS; (try dsimp only at hS); obtain ⟨s0, s1⟩ := hS; (try go_simp); (try with_reducible rfl))
        try simp only [Act.put, List.getElem_toArray, List.getElem_cons_zero, List.getElem_cons_succ, List.setIfInBounds_toArray, List.set_cons_zero, List.set_cons_succ]
        refine wpAnyH_take (i := 2) (v := ?vb3) rfl (by kernel_rfl) (by kernel_rfl) (by kernel_rfl) (fun _ _ _ h => h) (Or.inl ⟨by kernel_rfl, ?yb3⟩) hHeld0 ?rb3
        case yb3 => (intro w' hS; (try dsimp only at hS); obtain ⟨s0, s1⟩ := hS; (try go_simp); (try with_reducible rfl))
        try simp only [Act.put, List.getElem_toArray, List.getElem_cons_zero, List.getElem_cons_succ, List.setIfInBounds_toArray, List.set_cons_zero, List.set_cons_succ]
        refine wpAnyH_take (i := 3) (v := ?vb4) rfl (by kernel_rfl) (by kernel_rfl) (by kernel_rfl) (fun _ _ _ h => h) (Or.inl ⟨by kernel_rfl, ?yb4⟩) hHeld0 ?rb4
        case yb4 => (intro w' hS; (try dsimp only at hS); obtain ⟨s0, s1⟩ := hS; (try go_simp); (try with_reducible rfl))
        try simp only [Act.put, List.getElem_toArray, List.getElem_cons_zero, List.getElem_cons_succ, List.setIfInBounds_toArray, List.set_cons_zero, List.set_cons_succ]
        refine wpAnyH_take (i := 4) (v := ?vb5) rfl (by kernel_rfl) (by kernel_rfl) (by kernel_rfl) (fun _ _ _ h => h) (Or.inl ⟨by kernel_rfl, ?yb5⟩) hHeld0 ?rb5
        case yb5 => (intro w' hS; (try dsimp only at hS); obtain ⟨s0, s1⟩ := hS; (try go_simp); (try with_reducible rfl))
        try simp only [Act.put, List.getElem_toArray, List.getElem_cons_zero, List.getElem_cons_succ, List.setIfInBounds_toArray, List.set_cons_zero, List.set_cons_succ]
        refine wpAnyH_take (i := 5) (v := ?vb6) rfl (by kernel_rfl) (by kernel_rfl) (by kernel_rfl) (fun _ _ _ h => h) (Or.inl ⟨by kernel_rfl, ?yb6⟩) hHeld0 ?rb6
        case yb6 => (intro w' hS; (try dsimp only at hS); obtain ⟨s0, s1⟩ := hS; (try go_simp); (try with_reducible rfl))
        try simp only [Act.put, List.getElem_toArray, List.getElem_cons_zero, List.getElem_cons_succ, List.setIfInBounds_toArray, List.set_cons_zero, List.set_cons_succ]
        refine wpAnyH_take (i := 6) (v := ?vb7) rfl (by kernel_rfl) (by kernel_rfl) (by kernel_rfl) (fun _ _ _ h => h) (Or.inl ⟨by kernel_rfl, ?yb7⟩) hHeld0 ?rb7
        case yb7 => (intro w' hS; (try dsimp only at hS); obtain ⟨s0, s1⟩ := hS; (try go_simp); (try with_reducible rfl))
        try simp only [Act.put, List.getElem_toArray, List.getElem_cons_zero, List.getElem_cons_succ, List.setIfInBounds_toArray, List.set_cons_zero, List.set_cons_succ]
        refine wpAnyH_take (i := 7) (v := ?vb8) rfl (by kernel_rfl) (by kernel_rfl) (by kernel_rfl) (fun _ _ _ h => h) (Or.inl ⟨by kernel_rfl, ?yb8⟩) hHeld0 ?rb8
        case yb8 => (intro w' hS; (try dsimp only at hS); obtain ⟨s0, s1⟩ := hS; (try go_simp); (try with_reducible rfl))
        try simp only [Act.put, List.getElem_toArray, List.getElem_cons_zero, List.getElem_cons_succ, List.setIfInBounds_toArray, List.set_cons_zero, List.set_cons_succ]
        refine wpAnyH_take (i := 8) (v := ?vb9) rfl (by kernel_rfl) (by kernel_rfl) (by kernel_rfl) (fun _ _ _ h => h) (Or.inl ⟨by kernel_rfl, ?yb9⟩) hHeld0 ?rb9
        case yb9 => (intro w' hS; (try dsimp only at hS); obtain ⟨s0, s1⟩ := hS; (try go_simp); (try with_reducible rfl))
        try simp only [Act.put, List.getElem_toArray, List.getElem_cons_zero, List.getElem_cons_succ, List.setIfInBounds_toArray, List.set_cons_zero, List.set_cons_succ]
        refine wpAnyH_take (i := 9) (v := ?vb10) rfl (by kernel_rfl) (by kernel_rfl) (by kernel_rfl) (fun _ _ _ h => h) (Or.inl ⟨by kernel_rfl, ?yb10⟩) hHeld0 ?rb10
        case yb10 => (intro w' hS; (try dsimp only at hS); obtain ⟨s0, s1⟩ := hS; (try go_simp); (try with_reducible rfl))
        try simp only [Act.put, List.getElem_toArray, List.getElem_cons_zero, List.getElem_cons_succ, List.setIfInBounds_toArray, List.set_cons_zero, List.set_cons_succ]
        refine wpAnyH_ready (rs := [10]) (by kernel_rfl) (by simp) ?_
        refine AllReadyH.cons rfl (fun K hK => ?_) AllReadyH.nil
        go_simp
        refine (impl_StoreNew _).mono ?_
        rintro e bu1 ⟨A13, c13, D13, rfl, hc13, hO13, hc⟩
        have bb1 := hvb.trans (hc.mono hvb.size)
        clear hc
        go_wp2_with fail
        refine hK.out _ _ (⟨(ht.out _ bb1).x0, (ht.out _ bb1).x1⟩) (fun hHb1 => ?_)
        clear hK K
        try simp only [Act.put, List.getElem_toArray, List.getElem_cons_zero, List.getElem_cons_succ, List.setIfInBounds_toArray, List.set_cons_zero, List.set_cons_succ]
        refine wpAnyH_ready (rs := [11]) (by kernel_rfl) (by simp) ?_
        refine AllReadyH.cons rfl (fun K hK => ?_) AllReadyH.nil
        go_simp
        refine (laws_lqStore_ok new_okay A12 D12 A13 D13 c12 d12 c13 6 _ (ht.out _ bb1).fl (ht.out _ bb1).dk hO13.ofl.fl hO13.disk).mono ?_
        rintro e bu2 ⟨rfl, hc⟩
        have bb2 := bb1.trans (hc.mono bb1.size)
        clear hc
        go_wp2_with fail
        refine hK.out _ _ (⟨(ht.out _ bb2).x0, (ht.out _ bb2).x1⟩) (fun hHb2 => ?_)
        clear hK K
        try simp only [Act.put, List.getElem_toArray, List.getElem_cons_zero, List.getElem_cons_succ, List.setIfInBounds_toArray, List.set_cons_zero, List.set_cons_succ]
        refine wpAnyH_take (i := 12) (v := ?vb11) rfl (by kernel_rfl) (by kernel_rfl) (by kernel_rfl) (fun _ _ _ h => h) (Or.inl ⟨by kernel_rfl, ?yb11⟩) hHb2 ?rb11
        case yb11 => (intro w' hS; (try dsimp only at hS); obtain ⟨s0, s1⟩ := hS; (try go_simp); (try with_reducible rfl))
        try simp only [Act.put, List.getElem_toArray, List.getElem_cons_zero, List.getElem_cons_succ, List.setIfInBounds_toArray, List.set_cons_zero, List.set_cons_succ]
        refine wpAnyH_take (i := 13) (v := ?vb12) rfl (by kernel_rfl) (by kernel_rfl) (by kernel_rfl) (fun _ _ _ h => h) (Or.inl ⟨by kernel_rfl, ?yb12⟩) hHb2 ?rb12
        case yb12 => (intro w' hS; (try dsimp only at hS); obtain ⟨s0, s1⟩ := hS; (try go_simp); (try with_reducible rfl))
        try simp only [Act.put, List.getElem_toArray, List.getElem_cons_zero, List.getElem_cons_succ, List.setIfInBounds_toArray, List.set_cons_zero, List.set_cons_succ]
        refine wpAnyH_done (by kernel_rfl) ?_ _
        have hBf := hvd.trans (bb2.mono (by have h := hvd.size; exact h))
        go_wp2
        go_ret
        exact ⟨rfl, hBf⟩
end Go.Proofs.Ytohkoogmbfaceaa
