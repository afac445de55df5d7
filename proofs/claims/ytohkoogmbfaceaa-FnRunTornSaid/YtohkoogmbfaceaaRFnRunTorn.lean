/- Walks: laws over plays: FnRunTorn. -/
import Derived.Test.YtohkoogmbfaceaaZ7
namespace Go.Proofs.Ytohkoogmbfaceaa
set_option linter.unusedVariables false
set_option linter.unusedSimpArgs false
open Go.RowKit Go.Maps
set_option maxHeartbeats 400000
set_option maxHeartbeats 8000000 in
set_option maxRecDepth 100000 in
theorem law_FnRunTorn {w : World} (A : Option Addr) (bs : List Nat) (c : Nat) (hc : Code w A bs c) :
    Calls Try.prog 12 #[.slice A bs.length c] w fun e w' => e = .returned (.bool true) ∧ Below w.heap.size w w' := by
  by_cases hlen : (1048576 : Int) < bs.length
  · go_enter Try.func12, Try.ntmps12
    go_wp2
    go_ret
    exact ⟨rfl, Below.refl _ _⟩
  go_enter Try.func12, Try.ntmps12
  go_wp2_with fail
  refine (spec_DrawPlayRun A bs c _ hc).mono ?_
  rintro e w1 ⟨v, es, rfl, hE, hel, hef, hB1⟩
  obtain ⟨V, vc, rfl, hX, _, _⟩ := hE.out
  have hs1 := hB1.size
  have HEF := Lib.hid hef
  clear hE hef
  by_cases h60 : es.length ≤ 60
  · have HOK := Lib.hid (run_run es).ok
    go_wp2_with fail
    refine (impl_PlayRun_ok h60 V vc _ hX).mono ?_
    rintro e w2 ⟨A2, c2, D2, d2, rfl, hF2, hD2, _, hb⟩
    have hs2 := hb.size
    have hB2 := hB1.trans (hb.mono hB1.size)
    replace hX := hX.below hb (Nat.le_refl _)
    clear hb
    have hHbx := Held.ok HOK.out c2 d2 hF2.fl hD2
    replace hX := hX.below ((Below.refl w2.heap.size w2).alloc (Nat.le_refl _) (.cells #[.slice A2 4 c2, .slice D2 6 d2] 28)) (Nat.le_refl _)
    have hBW2 := hB2.alloc hB2.size (.cells #[.slice A2 4 c2, .slice D2 6 d2] 28)
    have hzW2 : (w2.alloc (.cells #[.slice A2 4 c2, .slice D2 6 d2] 28)).heap.size = w2.heap.size + 1 := by simp
    obtain ⟨W2, hEW2⟩ : ∃ W, w2.alloc (.cells #[.slice A2 4 c2, .slice D2 6 d2] 28) = W := ⟨_, rfl⟩
    obtain ⟨bx, hEbx⟩ : ∃ b, w2.heap.size = b := ⟨_, rfl⟩
    rw [hEW2] at hHbx hBW2 hzW2 hX
    rw [hEbx] at hHbx hzW2
    clear hF2 hD2
    go_wp2_with fail
    refine (spec_PlayRun_ok h60 V vc _ hX).mono ?_
    rintro e w3 ⟨A3, c3, D3, d3, rfl, hF3, hD3, _, hb⟩
    have hs3 := hb.size
    have hB3 := hBW2.trans (hb.mono hBW2.size)
    replace hX := hX.below hb (Nat.le_refl _)
    replace hHbx := hHbx.below hb (Nat.le_refl _)
    clear hb
    have hHby' := Held.ok HOK.out c3 d3 hF3.fl hD3
    replace hX := hX.below ((Below.refl w3.heap.size w3).alloc (Nat.le_refl _) (.cells #[.slice A3 4 c3, .slice D3 6 d3] 28)) (Nat.le_refl _)
    replace hHbx := hHbx.below ((Below.refl w3.heap.size w3).alloc (Nat.le_refl _) (.cells #[.slice A3 4 c3, .slice D3 6 d3] 28)) (Nat.le_refl _)
    have hBW3 := hB3.alloc hB3.size (.cells #[.slice A3 4 c3, .slice D3 6 d3] 28)
    have hzW3 : (w3.alloc (.cells #[.slice A3 4 c3, .slice D3 6 d3] 28)).heap.size = w3.heap.size + 1 := by simp
    obtain ⟨W3, hEW3⟩ : ∃ W, w3.alloc (.cells #[.slice A3 4 c3, .slice D3 6 d3] 28) = W := ⟨_, rfl⟩
    obtain ⟨by', hEby'⟩ : ∃ b, w3.heap.size = b := ⟨_, rfl⟩
    rw [hEW3] at hHby' hBW3 hzW3 hX hHbx
    rw [hEby'] at hHby' hzW3
    clear hF3 hD3
    have x0 := hHbx.x0
    have x1 := hHbx.x1
    have y0 := hHby'.x0
    have y1 := hHby'.x1
    go_wp2_with fail
    refine (laws_lqStore_ok HOK.out A2 D2 A3 D3 c2 d2 c3 d3 _ hHbx.fl hHbx.dk hHby'.fl hHby'.dk).mono ?_
    rintro e w4 ⟨rfl, hb⟩
    have hB4 := hBW3.trans (hb.mono hBW3.size)
    replace hX := hX.below hb (Nat.le_refl _)
    replace hHbx := hHbx.below hb (Nat.le_refl _)
    replace x0 := hHbx.x0
    replace x1 := hHbx.x1
    clear hb hHby' y0 y1 hBW3 hBW2 hB3 hB2 hB1
    have hz4 := hB4.size
    go_wp2
    go_loopw [8, 9] (fun t i wr => ∃ (k : Nat) (ys : List Ev), k ≤ es.length ∧ i = .int .i64 k ∧ OwnE wr w4.heap.size t ys ∧ Hid (ys = (es.take k).filter lessB) ∧ ys.length ≤ k ∧ Below w4.heap.size w4 wr) (fun _ i _ => es.length - (intOf i).toNat)
    case atStart => exact ⟨0, [], by omega, rfl, OwnE.nil w4 _ (Nat.le_refl _), rfl, by simp, by (repeat (first | (with_reducible exact Below.refl _ _) | (with_reducible assumption) | (refine Below.setCell ?_ (by first | omega | exact hB.size | exact hb.size | (have h := hB.size; simp; omega) | (have h := hb.size; simp; omega) | (simp; omega) | simp) _) | (refine Below.alloc ?_ (by first | omega | exact hB.size | exact hb.size | (have h := hB.size; simp; omega) | (have h := hb.size; simp; omega) | (simp; omega) | simp) _) | (refine Below.drew ?_)))⟩
    case round =>
      obtain ⟨k, ys, hk, rfl, hO, hY, hyl, hBr⟩ := hrel
      rename World => wo
      have hzo := hBr.size
      by_cases hlt : k < es.length
      · obtain ⟨x, hx⟩ := get_some hlt
        have hXi := hX.below hBr (Nat.le_refl _)
        obtain ⟨vb, vo, rfl⟩ := hXi.addr (by intro e; have := evs_len es; rw [e] at this; simp at this; omega)
        obtain ⟨c0', c1', c2', c3', c4'⟩ := hXi.ev hx
        have hk1 : (k : Int) < es.length := by omega
        have e1 : IntKind.i64.wrap ((k : Int) + 1) = (k : Int) + 1 := IntWalk.i64_in _ (by omega)
        have hnx : Hid ((es.take (k + 1)).filter lessB = ys ++ [x].filter lessB) := by rw [Hid, List.take_add_one, hx, List.filter_append, ← hY.out]; rfl
        clear hx hXi hY
        by_cases hb : lessB x = true
        · have hn2 : Hid ((es.take (k + 1)).filter lessB = ys ++ [x]) := by rw [Hid, hnx.out, List.filter_cons_of_pos hb, List.filter_nil]
          clear hnx
          have hOl := hO.alloc (.cells #[.int .i64 x.kind, .int .i64 x.a, .int .i64 x.b, .int .i64 x.c, .bool x.torn] 34)
          have hBl : Below w4.heap.size w4 (wo.alloc (.cells #[.int .i64 x.kind, .int .i64 x.a, .int .i64 x.b, .int .i64 x.c, .bool x.torn] 34)) := hBr.alloc hzo _
          unfold lessB at hb
          by_cases hc0 : x.c = 0
          · have q1 : (x.c != 0) = false := by rw [hc0]; rfl
            have h4 : x.kind = 4 := by simpa [hc0] using hb
            have q2 : (x.kind == 4) = true := by rw [h4]; rfl
            clear hc0 h4 hb
            go_wp2_with (at_builtin; refine wpList_evs rfl (.tmp 70) (.tmp 75) rfl w4.heap.size u8 ys [x] rfl hOl wo.heap.size 0 1 (ys.length + 1) 1 rfl rfl rfl (Row.new wo #[.int .i64 x.kind, .int .i64 x.a, .int .i64 x.b, .int .i64 x.c, .bool x.torn] 34) (by omega) (by omega) (by simp; omega) ?_; intro g7 c7 w7 hO7 hB7)
            have hBz : Below w4.heap.size w4 w7 := hBl.trans hB7
            go_wp2
            go_roundw
            (case rel => exact ⟨k + 1, ys ++ [x], by omega, by go_num, hO7, by rw [Hid, hn2.out], by simp; omega, hBz⟩)
            (case measure => simp [intOf]; omega)
          · have q1 : (x.c != 0) = true := by rw [bne_iff_ne]; exact hc0
            clear hc0 hb
            go_wp2_with (at_builtin; refine wpList_evs rfl (.tmp 70) (.tmp 75) rfl w4.heap.size u8 ys [x] rfl hOl wo.heap.size 0 1 (ys.length + 1) 1 rfl rfl rfl (Row.new wo #[.int .i64 x.kind, .int .i64 x.a, .int .i64 x.b, .int .i64 x.c, .bool x.torn] 34) (by omega) (by omega) (by simp; omega) ?_; intro g7 c7 w7 hO7 hB7)
            have hBz : Below w4.heap.size w4 w7 := hBl.trans hB7
            go_wp2
            go_roundw
            (case rel => exact ⟨k + 1, ys ++ [x], by omega, by go_num, hO7, by rw [Hid, hn2.out], by simp; omega, hBz⟩)
            (case measure => simp [intOf]; omega)
        · have hn2 : Hid ((es.take (k + 1)).filter lessB = ys) := by rw [Hid, hnx.out, List.filter_cons_of_neg hb, List.filter_nil, List.append_nil]
          clear hnx
          unfold lessB at hb
          have hc0 : x.c = 0 := by
            by_cases h : x.c = 0
            · exact h
            · exact absurd (by simp [h]) hb
          have h4 : x.kind ≠ 4 := fun h => hb (by simp [h])
          have q1 : (x.c != 0) = false := by rw [hc0]; rfl
          have q2 : (x.kind == 4) = false := by simpa using h4
          clear hc0 h4 hb
          go_wp2
          go_roundw
          (case rel => exact ⟨k + 1, ys, by omega, by go_num, hO, by rw [Hid, hn2.out], by omega, hBr⟩)
          (case measure => simp [intOf]; omega)
      · have hk1 : ¬ (k : Int) < es.length := by omega
        rw [List.take_of_length_le (show es.length ≤ k by omega)] at hY
        obtain ⟨At, ct, rfl, hRy, _, _⟩ := hO.out
        have hRX := hX
        clear hX hO
        go_wp2
        go_loopw [10] (fun i wi => ∃ j : Nat, j ≤ ys.length ∧ i = .int .i64 j ∧ Hid (∀ e ∈ ys.take j, ¬ (e.c < 6 ∧ e.kind = 1)) ∧ Below wo.heap.size wo wi) (fun i _ => ys.length - (intOf i).toNat)
        case atStart => exact ⟨0, by omega, rfl, fun e he => by simp at he, Below.refl _ _⟩
        case round =>
          obtain ⟨j, hj, rfl, hC, hBi⟩ := hrel
          rename World => wi
          have hBw := hBr.trans (hBi.mono hzo)
          have hRi := hRy.below hBi (Nat.le_refl _)
          by_cases hlt2 : j < ys.length
          · obtain ⟨x, hx⟩ := get_some hlt2
            obtain ⟨yb, yo, rfl⟩ : ∃ b o, At = some ⟨b, o, none⟩ := hRi.addr (by intro e; have := evs_len ys; rw [e] at this; simp at this; omega)
            obtain ⟨c0', c1', c2', c3', c4'⟩ := hRi.ev hx
            have hj1 : (j : Int) < ys.length := by omega
            have e3 : IntKind.i64.wrap ((j : Int) + 1) = (j : Int) + 1 := IntWalk.i64_in _ (by omega)
            have hC2 : Hid (¬ (x.c < 6 ∧ x.kind = 1) → ∀ e ∈ ys.take (j + 1), ¬ (e.c < 6 ∧ e.kind = 1)) := by
              intro hn e he
              rw [List.take_add_one, hx] at he
              rcases List.mem_append.1 he with he | he
              · exact hC.out e he
              · simp at he; subst he; exact hn
            clear hx hC
            by_cases h6 : x.c < 6
            · by_cases h1 : x.kind = 1
              · have q1 : (x.kind == 1) = true := by rw [h1]; rfl
                clear h1
                have hBf := hB4.trans (hBw.mono hz4)
                go_wp2
                go_ret
                exact ⟨rfl, hBf⟩
              · have q1 : (x.kind == 1) = false := by simpa using h1
                have HC := Lib.hid (hC2.out (fun h => h1 h.2))
                clear h1 hC2
                go_wp2
                go_roundw
                (case rel => exact ⟨j + 1, by omega, by go_num, HC, hBi⟩)
                (case measure => simp [intOf]; omega)
            · have HC := Lib.hid (hC2.out (fun h => h6 h.1))
              clear hC2
              go_wp2
              go_roundw
              (case rel => exact ⟨j + 1, by omega, by go_num, HC, hBi⟩)
              (case measure => simp [intOf]; omega)
          · have hj2 : ¬ (j : Int) < ys.length := by omega
            rw [List.take_of_length_le (show ys.length ≤ j by omega)] at hC
            have hSM := Lib.hid (run_torn es h60 HEF.out (fun e he => hC.out e (by rw [hY.out]; exact he)))
            rw [← hY.out] at hSM
            have HAV := Lib.hid (allV_same hSM.out)
            have HOY := Lib.hid (run_run ys).ok
            have hHi := hHbx.below hBw (Nat.le_refl _)
            have hzi := hBw.size
            have hBh := hB4.trans (hBw.mono hz4)
            clear hSM hC
            go_wp2_with fail
            refine (impl_PlayRun_n (es := ys) (by omega) At ys.length ct rfl _ hRi).mono ?_
            rintro e w6 ⟨A6, c6, D6, d6, rfl, hF6, hD6, _, hb⟩
            have hB6 := hBh.trans (hb.mono hBh.size)
            replace hHi := hHi.below hb (Nat.le_refl _)
            clear hb
            have hHbt := Held.ok HOY.out c6 d6 hF6.fl hD6
            replace hHi := hHi.below ((Below.refl w6.heap.size w6).alloc (Nat.le_refl _) (.cells #[.slice A6 4 c6, .slice D6 6 d6] 28)) (Nat.le_refl _)
            have hBW6 := hB6.alloc hB6.size (.cells #[.slice A6 4 c6, .slice D6 6 d6] 28)
            have hzW6 : (w6.alloc (.cells #[.slice A6 4 c6, .slice D6 6 d6] 28)).heap.size = w6.heap.size + 1 := by simp
            obtain ⟨W6, hEW6⟩ : ∃ W, w6.alloc (.cells #[.slice A6 4 c6, .slice D6 6 d6] 28) = W := ⟨_, rfl⟩
            obtain ⟨bt, hEbt⟩ : ∃ b, w6.heap.size = b := ⟨_, rfl⟩
            rw [hEW6] at hHbt hBW6 hzW6 hHi
            rw [hEbt] at hHbt hzW6
            replace x0 := hHi.x0
            replace x1 := hHi.x1
            have t0 := hHbt.x0
            have t1 := hHbt.x1
            clear hF6 hD6 hB6
            go_wp2
            have hs := Lib.hid (fun X (h : Below W6.drew.heap.size W6.drew X) => hHi.drew.below h (Nat.le_refl _))
            have ht := Lib.hid (fun X (h : Below W6.drew.heap.size W6.drew X) => hHbt.drew.below h (Nat.le_refl _))
            have hvb : Below W6.drew.heap.size W6.drew W6.drew := Below.refl _ _
            have hvd : Below w.heap.size w W6.drew := hBW6.drew
            clear hHi hHbt
            refine wp_region_held_drew (S := fun X => X.cell? ⟨bx, 0, none⟩ = some (.slice A2 4 c2) ∧ X.cell? ⟨bx, 1, none⟩ = some (.slice D2 6 d2) ∧ X.cell? ⟨bt, 0, none⟩ = some (.slice A6 4 c6) ∧ X.cell? ⟨bt, 1, none⟩ = some (.slice D6 6 d6)) (by kernel_rfl) ⟨(hs.out _ hvb).x0, (hs.out _ hvb).x1, (ht.out _ hvb).x0, (ht.out _ hvb).x1⟩ (fun hHeld0 => ?_)
            refine wpAnyH_take (i := 0) (v := ?va1) rfl (by kernel_rfl) (by kernel_rfl) (by kernel_rfl) (fun _ _ _ h => h) (Or.inl ⟨by kernel_rfl, ?ya1⟩) hHeld0 ?ra1
            case ya1 => (intro w' hS; (try dsimp only at hS); obtain ⟨s0, s1, s2, s3⟩ := hS; (try go_simp); (try with_reducible rfl))
            try simp only [Act.put, List.getElem_toArray, List.getElem_cons_zero, List.getElem_cons_succ, List.setIfInBounds_toArray, List.set_cons_zero, List.set_cons_succ]
            refine wpAnyH_take (i := 1) (v := ?va2) rfl (by kernel_rfl) (by kernel_rfl) (by kernel_rfl) (fun _ _ _ h => h) (Or.inl ⟨by kernel_rfl, ?ya2⟩) hHeld0 ?ra2
            case ya2 => (intro w' hS; (try dsimp only at hS); obtain ⟨s0, s1, s2, s3⟩ := hS; (try go_simp); (try with_reducible rfl))
            try simp only [Act.put, List.getElem_toArray, List.getElem_cons_zero, List.getElem_cons_succ, List.setIfInBounds_toArray, List.set_cons_zero, List.set_cons_succ]
            refine wpAnyH_take (i := 2) (v := ?va3) rfl (by kernel_rfl) (by kernel_rfl) (by kernel_rfl) (fun _ _ _ h => h) (Or.inl ⟨by kernel_rfl, ?ya3⟩) hHeld0 ?ra3
            case ya3 => (intro w' hS; (try dsimp only at hS); obtain ⟨s0, s1, s2, s3⟩ := hS; (try go_simp); (try with_reducible rfl))
            try simp only [Act.put, List.getElem_toArray, List.getElem_cons_zero, List.getElem_cons_succ, List.setIfInBounds_toArray, List.set_cons_zero, List.set_cons_succ]
            refine wpAnyH_take (i := 4) (v := ?va4) rfl (by kernel_rfl) (by kernel_rfl) (by kernel_rfl) (fun _ _ _ h => h) (Or.inl ⟨by kernel_rfl, ?ya4⟩) hHeld0 ?ra4
            case ya4 => (intro w' hS; (try dsimp only at hS); obtain ⟨s0, s1, s2, s3⟩ := hS; (try go_simp); (try with_reducible rfl))
            try simp only [Act.put, List.getElem_toArray, List.getElem_cons_zero, List.getElem_cons_succ, List.setIfInBounds_toArray, List.set_cons_zero, List.set_cons_succ]
            refine wpAnyH_ready (rs := [3]) (by kernel_rfl) (by simp) ?_
            refine AllReadyH.cons rfl (fun K hK => ?_) AllReadyH.nil
            go_simp
            refine (impl_StoreAll_ok HOY.out A6 D6 c6 d6 _ (ht.out _ hvb).fl (ht.out _ hvb).dk).mono ?_
            rintro e au1 ⟨A11, c11, rfl, hL11, hc⟩
            have ab1 := hvb.trans (hc.mono hvb.size)
            clear hc
            go_wp2_with fail
            refine hK.out _ _ (⟨(hs.out _ ab1).x0, (hs.out _ ab1).x1, (ht.out _ ab1).x0, (ht.out _ ab1).x1⟩) (fun hHa1 => ?_)
            clear hK K
            try simp only [Act.put, List.getElem_toArray, List.getElem_cons_zero, List.getElem_cons_succ, List.setIfInBounds_toArray, List.set_cons_zero, List.set_cons_succ]
            refine wpAnyH_ready (rs := [5]) (by kernel_rfl) (by simp) ?_
            refine AllReadyH.cons rfl (fun K hK => ?_) AllReadyH.nil
            go_simp
            refine (impl_StoreAll_ok HOK.out A2 D2 c2 d2 _ (hs.out _ ab1).fl (hs.out _ ab1).dk).mono ?_
            rintro e au2 ⟨A12, c12, rfl, hL12, hc⟩
            have ab2 := ab1.trans (hc.mono ab1.size)
            replace hL11 := hL11.below hc (Nat.le_refl _)
            clear hc
            go_wp2_with fail
            refine hK.out _ _ (⟨(hs.out _ ab2).x0, (hs.out _ ab2).x1, (ht.out _ ab2).x0, (ht.out _ ab2).x1⟩) (fun hHa2 => ?_)
            clear hK K
            try simp only [Act.put, List.getElem_toArray, List.getElem_cons_zero, List.getElem_cons_succ, List.setIfInBounds_toArray, List.set_cons_zero, List.set_cons_succ]
            refine wpAnyH_ready (rs := [6]) (by kernel_rfl) (by simp) ?_
            refine AllReadyH.cons rfl (fun K hK => ?_) AllReadyH.nil
            go_simp
            refine (laws_lqInts_6 HAV.out.symm rfl A11 A12 c11 c12 _ hL11 hL12).mono ?_
            rintro e au3 ⟨rfl, hc⟩
            have ab3 := ab2.trans (hc.mono ab2.size)
            replace hL11 := hL11.below hc (Nat.le_refl _)
            replace hL12 := hL12.below hc (Nat.le_refl _)
            clear hc
            go_wp2_with fail
            refine hK.out _ _ (⟨(hs.out _ ab3).x0, (hs.out _ ab3).x1, (ht.out _ ab3).x0, (ht.out _ ab3).x1⟩) (fun hHa3 => ?_)
            clear hK K
            try simp only [Act.put, List.getElem_toArray, List.getElem_cons_zero, List.getElem_cons_succ, List.setIfInBounds_toArray, List.set_cons_zero, List.set_cons_succ]
            refine wpAnyH_take (i := 7) (v := ?va5) rfl (by kernel_rfl) (by kernel_rfl) (by kernel_rfl) (fun _ _ _ h => h) (Or.inl ⟨by kernel_rfl, ?ya5⟩) hHa3 ?ra5
            case ya5 => (intro w' hS; (try dsimp only at hS); obtain ⟨s0, s1, s2, s3⟩ := hS; (try go_simp); (try with_reducible rfl))
            try simp only [Act.put, List.getElem_toArray, List.getElem_cons_zero, List.getElem_cons_succ, List.setIfInBounds_toArray, List.set_cons_zero, List.set_cons_succ]
            refine wpAnyH_take (i := 8) (v := ?va6) rfl (by kernel_rfl) (by kernel_rfl) (by kernel_rfl) (fun _ _ _ h => h) (Or.inl ⟨by kernel_rfl, ?ya6⟩) hHa3 ?ra6
            case ya6 => (intro w' hS; (try dsimp only at hS); obtain ⟨s0, s1, s2, s3⟩ := hS; (try go_simp); (try with_reducible rfl))
            try simp only [Act.put, List.getElem_toArray, List.getElem_cons_zero, List.getElem_cons_succ, List.setIfInBounds_toArray, List.set_cons_zero, List.set_cons_succ]
            refine wpAnyH_done (by kernel_rfl) ?_ _
            have hBf := hvd.trans (ab3.mono (by have h := hvd.size; exact h))
            go_wp2
            go_ret
            exact ⟨rfl, hBf⟩
  · have h61 : 60 < es.length := by omega
    go_wp2_with fail
    refine (impl_PlayRun_no h61 (by omega) V vc _ hX).mono ?_
    rintro e w2 ⟨A2, c2, D2, d2, rfl, hb⟩
    have hs2 := hb.size
    have hB2 := hB1.trans (hb.mono hB1.size)
    replace hX := hX.below hb (Nat.le_refl _)
    clear hb
    have hHbx := Held.no w2 A2 D2 c2 d2
    replace hX := hX.below ((Below.refl w2.heap.size w2).alloc (Nat.le_refl _) (.cells #[.slice A2 0 c2, .slice D2 0 d2] 28)) (Nat.le_refl _)
    have hBW2 := hB2.alloc hB2.size (.cells #[.slice A2 0 c2, .slice D2 0 d2] 28)
    have hzW2 : (w2.alloc (.cells #[.slice A2 0 c2, .slice D2 0 d2] 28)).heap.size = w2.heap.size + 1 := by simp
    obtain ⟨W2, hEW2⟩ : ∃ W, w2.alloc (.cells #[.slice A2 0 c2, .slice D2 0 d2] 28) = W := ⟨_, rfl⟩
    obtain ⟨bx, hEbx⟩ : ∃ b, w2.heap.size = b := ⟨_, rfl⟩
    rw [hEW2] at hHbx hBW2 hzW2 hX
    rw [hEbx] at hHbx hzW2
    go_wp2_with fail
    refine (spec_PlayRun_no h61 (by omega) V vc _ hX).mono ?_
    rintro e w3 ⟨A3, c3, D3, d3, rfl, hb⟩
    have hs3 := hb.size
    have hB3 := hBW2.trans (hb.mono hBW2.size)
    replace hX := hX.below hb (Nat.le_refl _)
    replace hHbx := hHbx.below hb (Nat.le_refl _)
    clear hb
    have hHby' := Held.no w3 A3 D3 c3 d3
    replace hX := hX.below ((Below.refl w3.heap.size w3).alloc (Nat.le_refl _) (.cells #[.slice A3 0 c3, .slice D3 0 d3] 28)) (Nat.le_refl _)
    replace hHbx := hHbx.below ((Below.refl w3.heap.size w3).alloc (Nat.le_refl _) (.cells #[.slice A3 0 c3, .slice D3 0 d3] 28)) (Nat.le_refl _)
    have hBW3 := hB3.alloc hB3.size (.cells #[.slice A3 0 c3, .slice D3 0 d3] 28)
    have hzW3 : (w3.alloc (.cells #[.slice A3 0 c3, .slice D3 0 d3] 28)).heap.size = w3.heap.size + 1 := by simp
    obtain ⟨W3, hEW3⟩ : ∃ W, w3.alloc (.cells #[.slice A3 0 c3, .slice D3 0 d3] 28) = W := ⟨_, rfl⟩
    obtain ⟨by', hEby'⟩ : ∃ b, w3.heap.size = b := ⟨_, rfl⟩
    rw [hEW3] at hHby' hBW3 hzW3 hX hHbx
    rw [hEby'] at hHby' hzW3
    have x0 := hHbx.x0
    have x1 := hHbx.x1
    have y0 := hHby'.x0
    have y1 := hHby'.x1
    go_wp2_with fail
    refine (laws_lqStore_no A2 D2 A3 D3 c2 d2 c3 d3 _).mono ?_
    rintro e w4 ⟨rfl, hb⟩
    have hB4 := hBW3.trans (hb.mono hBW3.size)
    replace hX := hX.below hb (Nat.le_refl _)
    replace hHbx := hHbx.below hb (Nat.le_refl _)
    replace hHby' := hHby'.below hb (Nat.le_refl _)
    replace x0 := hHbx.x0
    replace x1 := hHbx.x1
    replace y0 := hHby'.x0
    replace y1 := hHby'.x1
    clear hb hBW3 hBW2 hB3 hB2 hB1
    go_wp2_with fail
    refine (laws_lqStore_no A2 D2 A3 D3 c2 d2 c3 d3 _).mono ?_
    rintro e w5 ⟨rfl, hb⟩
    have hB5 := hB4.trans (hb.mono hB4.size)
    go_wp2
    go_ret
    exact ⟨rfl, hB5⟩
end Go.Proofs.Ytohkoogmbfaceaa
