/- Walks: laws over plays: FnRunStays. -/
import Derived.Test.YtohkoogmbfaceaaZ7
namespace Go.Proofs.Ytohkoogmbfaceaa
set_option linter.unusedVariables false
set_option linter.unusedSimpArgs false
open Go.RowKit Go.Maps
set_option maxHeartbeats 400000
set_option maxHeartbeats 8000000 in
set_option maxRecDepth 100000 in
theorem law_FnRunStays {w : World} (A : Option Addr) (bs : List Nat) (c : Nat) (hc : Code w A bs c) (A' : Option Addr) (bs' : List Nat) (c' : Nat) (hc' : Code w A' bs' c') :
    Calls Try.prog 10 #[.slice A bs.length c, .slice A' bs'.length c'] w fun e w' => e = .returned (.bool true) ∧ Below w.heap.size w w' := by
  by_cases hlen : (1048576 : Int) < bs.length
  · go_enter Try.func10, Try.ntmps10
    go_wp2
    go_ret
    exact ⟨rfl, Below.refl _ _⟩
  by_cases hlen' : (1048576 : Int) < bs'.length
  · go_enter Try.func10, Try.ntmps10
    go_wp2
    go_ret
    exact ⟨rfl, Below.refl _ _⟩
  go_enter Try.func10, Try.ntmps10
  go_wp2_with fail
  refine (spec_DrawPlayRun A bs c _ hc).mono ?_
  rintro e w1 ⟨v, es, rfl, hE, hel, hef, hB1⟩
  obtain ⟨V, vc, rfl, hX, _, _⟩ := hE.out
  have hs1 := hB1.size
  have HEF := Lib.hid hef
  clear hE hef
  by_cases h60 : es.length ≤ 60
  · have HOK := Lib.hid (run_run es).ok
    go_wp2_with fail
    refine (impl_PlayRun_ok h60 V vc _ hX).mono ?_
    rintro e w2 ⟨A2, c2, D2, d2, rfl, hF2, hD2, _, hb⟩
    have hs2 := hb.size
    have hB2 := hB1.trans (hb.mono hB1.size)
    replace hX := hX.below hb (Nat.le_refl _)
    clear hb
    have hHbx := Held.ok HOK.out c2 d2 hF2.fl hD2
    replace hX := hX.below ((Below.refl w2.heap.size w2).alloc (Nat.le_refl _) (.cells #[.slice A2 4 c2, .slice D2 6 d2] 28)) (Nat.le_refl _)
    have hBW2 := hB2.alloc hB2.size (.cells #[.slice A2 4 c2, .slice D2 6 d2] 28)
    have hzW2 : (w2.alloc (.cells #[.slice A2 4 c2, .slice D2 6 d2] 28)).heap.size = w2.heap.size + 1 := by simp
    obtain ⟨W2, hEW2⟩ : ∃ W, w2.alloc (.cells #[.slice A2 4 c2, .slice D2 6 d2] 28) = W := ⟨_, rfl⟩
    obtain ⟨bx, hEbx⟩ : ∃ b, w2.heap.size = b := ⟨_, rfl⟩
    rw [hEW2] at hHbx hBW2 hzW2 hX
    rw [hEbx] at hHbx hzW2
    clear hF2 hD2
    go_wp2_with fail
    refine (spec_PlayRun_ok h60 V vc _ hX).mono ?_
    rintro e w3 ⟨A3, c3, D3, d3, rfl, hF3, hD3, _, hb⟩
    have hs3 := hb.size
    have hB3 := hBW2.trans (hb.mono hBW2.size)
    replace hX := hX.below hb (Nat.le_refl _)
    replace hHbx := hHbx.below hb (Nat.le_refl _)
    clear hb
    have hHby' := Held.ok HOK.out c3 d3 hF3.fl hD3
    replace hX := hX.below ((Below.refl w3.heap.size w3).alloc (Nat.le_refl _) (.cells #[.slice A3 4 c3, .slice D3 6 d3] 28)) (Nat.le_refl _)
    replace hHbx := hHbx.below ((Below.refl w3.heap.size w3).alloc (Nat.le_refl _) (.cells #[.slice A3 4 c3, .slice D3 6 d3] 28)) (Nat.le_refl _)
    have hBW3 := hB3.alloc hB3.size (.cells #[.slice A3 4 c3, .slice D3 6 d3] 28)
    have hzW3 : (w3.alloc (.cells #[.slice A3 4 c3, .slice D3 6 d3] 28)).heap.size = w3.heap.size + 1 := by simp
    obtain ⟨W3, hEW3⟩ : ∃ W, w3.alloc (.cells #[.slice A3 4 c3, .slice D3 6 d3] 28) = W := ⟨_, rfl⟩
    obtain ⟨by', hEby'⟩ : ∃ b, w3.heap.size = b := ⟨_, rfl⟩
    rw [hEW3] at hHby' hBW3 hzW3 hX hHbx
    rw [hEby'] at hHby' hzW3
    clear hF3 hD3
    have x0 := hHbx.x0
    have x1 := hHbx.x1
    have y0 := hHby'.x0
    have y1 := hHby'.x1
    go_wp2_with fail
    refine (laws_lqStore_ok HOK.out A2 D2 A3 D3 c2 d2 c3 d3 _ hHbx.fl hHbx.dk hHby'.fl hHby'.dk).mono ?_
    rintro e w4 ⟨rfl, hb⟩
    have hB4 := hBW3.trans (hb.mono hBW3.size)
    replace hX := hX.below hb (Nat.le_refl _)
    replace hHbx := hHbx.below hb (Nat.le_refl _)
    replace x0 := hHbx.x0
    replace x1 := hHbx.x1
    clear hb hHby' y0 y1 hBW3 hBW2 hB3 hB2 hB1
    obtain ⟨a6, ha6⟩ : ∃ a6 : Int, (bs'.length : Int) % 6 = a6 := ⟨_, rfl⟩
    have ha0 : 0 ≤ a6 ∧ a6 < 6 := by omega
    obtain ⟨ha1, ha2⟩ := ha0
    have e0 : IntKind.i64.wrap (1 + a6) = 1 + a6 := IntWalk.i64_in _ (by omega)
    have hH5 := HeldF.new HOK.out c2 d2 hHbx.fl hHbx.dk
    obtain ⟨bt, hbt⟩ : ∃ b, w4.heap.size = b := ⟨_, rfl⟩
    rw [hbt] at hH5
    have HBT := Lib.hid hbt
    go_wp2
    (try simp only [hbt])
    clear ha6
    go_loopw [12] (fun i wr => ∃ (k : Nat) (Ak Dk : Option Addr) (ck dk : Nat), k ≤ es.length ∧ i = .int .i64 k ∧ HeldF wr bt Ak Dk ck dk ((es.take k).foldl (stayStep (1 + a6)) (doRun es)) ∧ Below bt w4 wr) (fun i _ => es.length - (intOf i).toNat)
    case atStart => exact ⟨0, A2, D2, c2, d2, by omega, rfl, hH5, by have := HBT.out; refine Below.alloc (Below.refl _ _) ?_ _; omega⟩
    case round =>
      obtain ⟨k, Ak, Dk, ck, dk, hk, rfl, hHk, hBr⟩ := hrel
      clear hH5
      have hXr := hX.below hBr (by rw [hbt]; exact Nat.le_refl _)
      have hHr := hHbx.below hBr (by rw [hbt]; exact Nat.le_refl _)
      have hST := Lib.hid (stay_all (a := 1 + a6) (by omega) (by omega) (es.take k) HOK.out)
      by_cases hlt : k < es.length
      · obtain ⟨x, hx⟩ := get_some hlt
        have hXi := hXr
        obtain ⟨vb, vo, rfl⟩ := hXi.addr (by intro e; have := evs_len es; rw [e] at this; simp at this; omega)
        obtain ⟨c0', c1', c2', c3', c4'⟩ := hXi.ev hx
        have hk1 : (k : Int) < es.length := by omega
        have e1 : IntKind.i64.wrap ((k : Int) + 1) = (k : Int) + 1 := IntWalk.i64_in _ (by omega)
        have hnx : Hid ((es.take (k + 1)).foldl (stayStep (1 + a6)) (doRun es) = stayStep (1 + a6) ((es.take k).foldl (stayStep (1 + a6)) (doRun es)) x) := by rw [Hid, List.take_add_one, hx, List.foldl_append]; rfl
        have hOKk := Lib.hid hST.out.1
        generalize (es.take k).foldl (stayStep (1 + a6)) (doRun es) = S at *
        clear hx hXi hXr hHr x0 x1 hST
        by_cases hp : isPut (1 + a6) x = true
        · have hz : Hid (stayStep (1 + a6) S x = S) := by unfold Hid stayStep; rw [if_pos hp]
          have hp' := isPut_iff.1 hp
          have hq1 : (x.kind != 1) = false := by rw [hp'.1]; rfl
          have hq2 : (x.a != 1 + a6) = false := by rw [hp'.2]; simp
          clear hp hp'
          go_wp2
          go_roundw
          (case rel => exact ⟨k + 1, Ak, Dk, ck, dk, by omega, by go_num, by rw [hnx.out, hz.out]; exact hHk, hBr⟩)
          (case measure => simp [intOf]; omega)
        · have hz : Hid (stayStep (1 + a6) S x = doEv S x) := by unfold Hid stayStep; rw [if_neg hp]
          have hnz : Hid ((es.take (k + 1)).foldl (stayStep (1 + a6)) (doRun es) = doEv S x) := hnx.out.trans hz.out
          have HP := Lib.hid (fun h1 h2 => hp (isPut_iff.2 ⟨h1, h2⟩))
          clear hz hnx hp
          by_cases hk4 : x.kind = 1
          · have hq1 : (x.kind != 1) = false := by rw [hk4]; rfl
            have hq2 : (x.a != 1 + a6) = true := by rw [bne_iff_ne]; exact fun h => HP.out hk4 h
            clear hk4
            have z0 := hHk.held.x0
            have z1 := hHk.held.x1
            have z2 := hHk.f0
            have z3 := hHk.f1
            go_wp2
            have hHd := hHk.drew
            have hbt : bt < wr.drew.heap.size := lt_of_cell hHd.held.x0
            go_region_with (first | (go_at_call 18; refine (impl_PlayDo_ok hOKk.out x.kind x.a x.b x.c x.torn Ak Dk ck dk _ hHd.held.fl hHd.held.dk).mono ?_; rintro e w6 ⟨A6, c6, D6, d6, rfl, hF6, hD6, hl6, hb6⟩; have d0 := (hb6.cell (p := ⟨bt, 0, none⟩) hbt).trans hHd.held.x0; have d1 := (hb6.cell (p := ⟨bt, 1, none⟩) hbt).trans hHd.held.x1; have d2 := (hb6.frozen (p := ⟨bt, 0, none⟩) hbt).trans hHd.f0; have d3 := (hb6.frozen (p := ⟨bt, 1, none⟩) hbt).trans hHd.f1))
            all_goals
              have hP := (hHd.below hb6 (Nat.le_refl _)).put (c' := c6) (d' := d6) (doEv_evt hOKk.out x).ok hF6 hbt hD6 hl6
              have hz6 : bt < w6.heap.size := Nat.lt_of_lt_of_le hbt hb6.size
              have hBn := (hBr.trans (undrew hb6 |>.mono (by have h : bt < wr.heap.size := hbt; omega))).setCell (p := ⟨bt, 0, none⟩) (show bt ≤ bt from Nat.le_refl _) (.slice A6 4 c6) |>.setCell (p := ⟨bt, 1, none⟩) (show bt ≤ bt from Nat.le_refl _) (.slice D6 6 d6)
              clear hF6 hD6 hl6 hb6
              go_wp2
              go_roundw
              (case rel => exact ⟨k + 1, A6, D6, c6, d6, by omega, by go_num, by rw [hnz.out]; exact hP, hBn⟩)
              (case measure => simp [intOf]; omega)
          · have hq1 : (x.kind != 1) = true := by rw [bne_iff_ne]; exact hk4
            have z0 := hHk.held.x0
            have z1 := hHk.held.x1
            have z2 := hHk.f0
            have z3 := hHk.f1
            go_wp2
            have hHd := hHk.drew
            have hbt : bt < wr.drew.heap.size := lt_of_cell hHd.held.x0
            go_region_with (first | (go_at_call 18; refine (impl_PlayDo_ok hOKk.out x.kind x.a x.b x.c x.torn Ak Dk ck dk _ hHd.held.fl hHd.held.dk).mono ?_; rintro e w6 ⟨A6, c6, D6, d6, rfl, hF6, hD6, hl6, hb6⟩; have d0 := (hb6.cell (p := ⟨bt, 0, none⟩) hbt).trans hHd.held.x0; have d1 := (hb6.cell (p := ⟨bt, 1, none⟩) hbt).trans hHd.held.x1; have d2 := (hb6.frozen (p := ⟨bt, 0, none⟩) hbt).trans hHd.f0; have d3 := (hb6.frozen (p := ⟨bt, 1, none⟩) hbt).trans hHd.f1))
            all_goals
              have hP := (hHd.below hb6 (Nat.le_refl _)).put (c' := c6) (d' := d6) (doEv_evt hOKk.out x).ok hF6 hbt hD6 hl6
              have hz6 : bt < w6.heap.size := Nat.lt_of_lt_of_le hbt hb6.size
              have hBn := (hBr.trans (undrew hb6 |>.mono (by have h : bt < wr.heap.size := hbt; omega))).setCell (p := ⟨bt, 0, none⟩) (show bt ≤ bt from Nat.le_refl _) (.slice A6 4 c6) |>.setCell (p := ⟨bt, 1, none⟩) (show bt ≤ bt from Nat.le_refl _) (.slice D6 6 d6)
              clear hF6 hD6 hl6 hb6
              go_wp2
              go_roundw
              (case rel => exact ⟨k + 1, A6, D6, c6, d6, by omega, by go_num, by rw [hnz.out]; exact hP, hBn⟩)
              (case measure => simp [intOf]; omega)
      · have hk1 : ¬ (k : Int) < es.length := by omega
        generalize (es.take k).foldl (stayStep (1 + a6)) (doRun es) = S at *
        have HRV := Lib.hid hST.out.2
        have HOS := Lib.hid hST.out.1
        replace x0 := hHr.x0
        replace x1 := hHr.x1
        have z0 := hHk.held.x0
        have z1 := hHk.held.x1
        have hbs := hBr.size
        have hBw : Below w.heap.size w wr.drew := (hB4.trans (hBr.mono (by have := hB4.size; have := HBT.out; omega))).drew
        have hs := Lib.hid (fun X (h : Below wr.drew.heap.size wr.drew X) => hHr.drew.below h (Nat.le_refl _))
        have ht := Lib.hid (fun X (h : Below wr.drew.heap.size wr.drew X) => hHk.held.drew.below h (Nat.le_refl _))
        have hvb : Below wr.drew.heap.size wr.drew wr.drew := Below.refl _ _
        have C1 := Lib.hid (fun X (h : Below wr.drew.heap.size wr.drew X) => (impl_StoreRead_ok HOS.out (a := 1 + a6) (by omega) (by omega) Ak Dk ck dk X (ht.out X h).fl (ht.out X h).dk).mono (fun e w' (q : e = .returned (.int .i64 (readV S (1 + a6))) ∧ Below X.heap.size X w') => (show e = .returned (.int .i64 (readV (doRun es) (1 + a6))) ∧ Below X.heap.size X w' from by rw [HRV.out] at q; exact q)))
        have C2 := Lib.hid (fun X (h : Below wr.drew.heap.size wr.drew X) => impl_StoreRead_ok HOK.out (a := 1 + a6) (by omega) (by omega) A2 D2 c2 d2 X (hs.out X h).fl (hs.out X h).dk)
        generalize readV (doRun es) (1 + a6) = r at *
        clear hST hHk hHr hXr HRV
        go_wp2
        refine wp_region_held_drew (S := fun X => X.cell? ⟨bx, 0, none⟩ = some (.slice A2 4 c2) ∧ X.cell? ⟨bx, 1, none⟩ = some (.slice D2 6 d2) ∧ X.cell? ⟨bt, 0, none⟩ = some (.slice Ak 4 ck) ∧ X.cell? ⟨bt, 1, none⟩ = some (.slice Dk 6 dk)) (by kernel_rfl) ⟨(hs.out _ hvb).x0, (hs.out _ hvb).x1, (ht.out _ hvb).x0, (ht.out _ hvb).x1⟩ (fun hHeld0 => ?_)
        refine wpAnyH_take (i := 0) (v := ?va1) rfl (by kernel_rfl) (by kernel_rfl) (by kernel_rfl) (fun _ _ _ h => h) (Or.inl ⟨by kernel_rfl, ?ya1⟩) hHeld0 ?ra1
        case ya1 => (intro w' hS; (try dsimp only at hS); obtain ⟨s0, s1, s2, s3⟩ := hS; (try go_simp); (try with_reducible rfl))
        try simp only [Act.put, List.getElem_toArray, List.getElem_cons_zero, List.getElem_cons_succ, List.setIfInBounds_toArray, List.set_cons_zero, List.set_cons_succ]
        refine wpAnyH_take (i := 1) (v := ?va2) rfl (by kernel_rfl) (by kernel_rfl) (by kernel_rfl) (fun _ _ _ h => h) (Or.inl ⟨by kernel_rfl, ?ya2⟩) hHeld0 ?ra2
        case ya2 => (intro w' hS; (try dsimp only at hS); obtain ⟨s0, s1, s2, s3⟩ := hS; (try go_simp); (try with_reducible rfl))
        try simp only [Act.put, List.getElem_toArray, List.getElem_cons_zero, List.getElem_cons_succ, List.setIfInBounds_toArray, List.set_cons_zero, List.set_cons_succ]
        refine wpAnyH_take (i := 3) (v := ?va3) rfl (by kernel_rfl) (by kernel_rfl) (by kernel_rfl) (fun _ _ _ h => h) (Or.inl ⟨by kernel_rfl, ?ya3⟩) hHeld0 ?ra3
        case ya3 => (intro w' hS; (try dsimp only at hS); obtain ⟨s0, s1, s2, s3⟩ := hS; (try go_simp); (try with_reducible rfl))
        try simp only [Act.put, List.getElem_toArray, List.getElem_cons_zero, List.getElem_cons_succ, List.setIfInBounds_toArray, List.set_cons_zero, List.set_cons_succ]
        refine wpAnyH_take (i := 4) (v := ?va4) rfl (by kernel_rfl) (by kernel_rfl) (by kernel_rfl) (fun _ _ _ h => h) (Or.inl ⟨by kernel_rfl, ?ya4⟩) hHeld0 ?ra4
        case ya4 => (intro w' hS; (try dsimp only at hS); obtain ⟨s0, s1, s2, s3⟩ := hS; (try go_simp); (try with_reducible rfl))
        try simp only [Act.put, List.getElem_toArray, List.getElem_cons_zero, List.getElem_cons_succ, List.setIfInBounds_toArray, List.set_cons_zero, List.set_cons_succ]
        refine wpAnyH_ready (rs := [2]) (by kernel_rfl) (by simp) ?_
        refine AllReadyH.cons rfl (fun K hK => ?_) AllReadyH.nil
        go_simp
        refine (C1.out _ hvb).mono ?_
        rintro e au1 ⟨rfl, hc⟩
        have ab1 := hvb.trans (hc.mono hvb.size)
        clear hc
        go_wp2_with fail
        refine hK.out _ _ (⟨(hs.out _ ab1).x0, (hs.out _ ab1).x1, (ht.out _ ab1).x0, (ht.out _ ab1).x1⟩) (fun hHa1 => ?_)
        clear hK K
        try simp only [Act.put, List.getElem_toArray, List.getElem_cons_zero, List.getElem_cons_succ, List.setIfInBounds_toArray, List.set_cons_zero, List.set_cons_succ]
        refine wpAnyH_ready (rs := [5]) (by kernel_rfl) (by simp) ?_
        refine AllReadyH.cons rfl (fun K hK => ?_) AllReadyH.nil
        go_simp
        refine (C2.out _ ab1).mono ?_
        rintro e au2 ⟨rfl, hc⟩
        have ab2 := ab1.trans (hc.mono ab1.size)
        clear hc
        go_wp2_with fail
        refine hK.out _ _ (⟨(hs.out _ ab2).x0, (hs.out _ ab2).x1, (ht.out _ ab2).x0, (ht.out _ ab2).x1⟩) (fun hHa2 => ?_)
        clear hK K
        try simp only [Act.put, List.getElem_toArray, List.getElem_cons_zero, List.getElem_cons_succ, List.setIfInBounds_toArray, List.set_cons_zero, List.set_cons_succ]
        refine wpAnyH_take (i := 6) (v := ?va5) rfl (by kernel_rfl) (by kernel_rfl) (by kernel_rfl) (fun _ _ _ h => h) (Or.inl ⟨by kernel_rfl, ?ya5⟩) hHa2 ?ra5
        case ya5 => (intro w' hS; (try dsimp only at hS); obtain ⟨s0, s1, s2, s3⟩ := hS; (try go_simp); (try with_reducible rfl))
        try simp only [Act.put, List.getElem_toArray, List.getElem_cons_zero, List.getElem_cons_succ, List.setIfInBounds_toArray, List.set_cons_zero, List.set_cons_succ]
        refine wpAnyH_take (i := 7) (v := ?va6) rfl (by kernel_rfl) (by kernel_rfl) (by kernel_rfl) (fun _ _ _ h => h) (Or.inl ⟨by kernel_rfl, ?ya6⟩) hHa2 ?ra6
        case ya6 => (intro w' hS; (try dsimp only at hS); obtain ⟨s0, s1, s2, s3⟩ := hS; (try go_simp); (try with_reducible rfl))
        try simp only [Act.put, List.getElem_toArray, List.getElem_cons_zero, List.getElem_cons_succ, List.setIfInBounds_toArray, List.set_cons_zero, List.set_cons_succ]
        refine wpAnyH_done (by kernel_rfl) ?_ _
        have hBf := hBw.trans (ab2.mono (by have h := hBw.size; exact h))
        go_wp2
        go_ret
        exact ⟨ret_bool (by simp), hBf⟩
  · have h61 : 60 < es.length := by omega
    go_wp2_with fail
    refine (impl_PlayRun_no h61 (by omega) V vc _ hX).mono ?_
    rintro e w2 ⟨A2, c2, D2, d2, rfl, hb⟩
    have hs2 := hb.size
    have hB2 := hB1.trans (hb.mono hB1.size)
    replace hX := hX.below hb (Nat.le_refl _)
    clear hb
    have hHbx := Held.no w2 A2 D2 c2 d2
    replace hX := hX.below ((Below.refl w2.heap.size w2).alloc (Nat.le_refl _) (.cells #[.slice A2 0 c2, .slice D2 0 d2] 28)) (Nat.le_refl _)
    have hBW2 := hB2.alloc hB2.size (.cells #[.slice A2 0 c2, .slice D2 0 d2] 28)
    have hzW2 : (w2.alloc (.cells #[.slice A2 0 c2, .slice D2 0 d2] 28)).heap.size = w2.heap.size + 1 := by simp
    obtain ⟨W2, hEW2⟩ : ∃ W, w2.alloc (.cells #[.slice A2 0 c2, .slice D2 0 d2] 28) = W := ⟨_, rfl⟩
    obtain ⟨bx, hEbx⟩ : ∃ b, w2.heap.size = b := ⟨_, rfl⟩
    rw [hEW2] at hHbx hBW2 hzW2 hX
    rw [hEbx] at hHbx hzW2
    go_wp2_with fail
    refine (spec_PlayRun_no h61 (by omega) V vc _ hX).mono ?_
    rintro e w3 ⟨A3, c3, D3, d3, rfl, hb⟩
    have hs3 := hb.size
    have hB3 := hBW2.trans (hb.mono hBW2.size)
    replace hX := hX.below hb (Nat.le_refl _)
    replace hHbx := hHbx.below hb (Nat.le_refl _)
    clear hb
    have hHby' := Held.no w3 A3 D3 c3 d3
    replace hX := hX.below ((Below.refl w3.heap.size w3).alloc (Nat.le_refl _) (.cells #[.slice A3 0 c3, .slice D3 0 d3] 28)) (Nat.le_refl _)
    replace hHbx := hHbx.below ((Below.refl w3.heap.size w3).alloc (Nat.le_refl _) (.cells #[.slice A3 0 c3, .slice D3 0 d3] 28)) (Nat.le_refl _)
    have hBW3 := hB3.alloc hB3.size (.cells #[.slice A3 0 c3, .slice D3 0 d3] 28)
    have hzW3 : (w3.alloc (.cells #[.slice A3 0 c3, .slice D3 0 d3] 28)).heap.size = w3.heap.size + 1 := by simp
    obtain ⟨W3, hEW3⟩ : ∃ W, w3.alloc (.cells #[.slice A3 0 c3, .slice D3 0 d3] 28) = W := ⟨_, rfl⟩
    obtain ⟨by', hEby'⟩ : ∃ b, w3.heap.size = b := ⟨_, rfl⟩
    rw [hEW3] at hHby' hBW3 hzW3 hX hHbx
    rw [hEby'] at hHby' hzW3
    have x0 := hHbx.x0
    have x1 := hHbx.x1
    have y0 := hHby'.x0
    have y1 := hHby'.x1
    go_wp2_with fail
    refine (laws_lqStore_no A2 D2 A3 D3 c2 d2 c3 d3 _).mono ?_
    rintro e w4 ⟨rfl, hb⟩
    have hB4 := hBW3.trans (hb.mono hBW3.size)
    replace hX := hX.below hb (Nat.le_refl _)
    replace hHbx := hHbx.below hb (Nat.le_refl _)
    replace hHby' := hHby'.below hb (Nat.le_refl _)
    replace x0 := hHbx.x0
    replace x1 := hHbx.x1
    replace y0 := hHby'.x0
    replace y1 := hHby'.x1
    clear hb hBW3 hBW2 hB3 hB2 hB1
    go_wp2_with fail
    refine (laws_lqStore_no A2 D2 A3 D3 c2 d2 c3 d3 _).mono ?_
    rintro e w5 ⟨rfl, hb⟩
    have hB5 := hB4.trans (hb.mono hB4.size)
    go_wp2
    go_ret
    exact ⟨rfl, hB5⟩
end Go.Proofs.Ytohkoogmbfaceaa
