/- Walks: laws over plays: FnRunFlush. -/
import Derived.Test.YtohkoogmbfaceaaZ7
namespace Go.Proofs.Ytohkoogmbfaceaa
set_option linter.unusedVariables false
set_option linter.unusedSimpArgs false
open Go.RowKit Go.Maps
set_option maxHeartbeats 400000
set_option maxHeartbeats 8000000 in
set_option maxRecDepth 100000 in
theorem law_FnRunFlush {w : World} (A : Option Addr) (bs : List Nat) (c : Nat) (hc : Code w A bs c) :
    Calls Try.prog 11 #[.slice A bs.length c] w fun e w' => e = .returned (.bool true) ∧ Below w.heap.size w w' := by
  by_cases hlen : (1048576 : Int) < bs.length
  · go_enter Try.func11, Try.ntmps11
    go_wp2
    go_ret
    exact ⟨rfl, Below.refl _ _⟩
  go_enter Try.func11, Try.ntmps11
  go_wp2_with fail
  refine (spec_DrawPlayRun A bs c _ hc).mono ?_
  rintro e w1 ⟨v, es, rfl, hE, hel, hef, hB1⟩
  obtain ⟨V, vc, rfl, hX, _, _⟩ := hE.out
  have hs1 := hB1.size
  have HEF := Lib.hid hef
  clear hE hef
  by_cases h60 : es.length ≤ 60
  · have HOK := Lib.hid (run_run es).ok
    go_wp2_with fail
    refine (impl_PlayRun_ok h60 V vc _ hX).mono ?_
    rintro e w2 ⟨A2, c2, D2, d2, rfl, hF2, hD2, _, hb⟩
    have hs2 := hb.size
    have hB2 := hB1.trans (hb.mono hB1.size)
    replace hX := hX.below hb (Nat.le_refl _)
    clear hb
    have hHbx := Held.ok HOK.out c2 d2 hF2.fl hD2
    replace hX := hX.below ((Below.refl w2.heap.size w2).alloc (Nat.le_refl _) (.cells #[.slice A2 4 c2, .slice D2 6 d2] 28)) (Nat.le_refl _)
    have hBW2 := hB2.alloc hB2.size (.cells #[.slice A2 4 c2, .slice D2 6 d2] 28)
    have hzW2 : (w2.alloc (.cells #[.slice A2 4 c2, .slice D2 6 d2] 28)).heap.size = w2.heap.size + 1 := by simp
    obtain ⟨W2, hEW2⟩ : ∃ W, w2.alloc (.cells #[.slice A2 4 c2, .slice D2 6 d2] 28) = W := ⟨_, rfl⟩
    obtain ⟨bx, hEbx⟩ : ∃ b, w2.heap.size = b := ⟨_, rfl⟩
    rw [hEW2] at hHbx hBW2 hzW2 hX
    rw [hEbx] at hHbx hzW2
    clear hF2 hD2
    go_wp2_with fail
    refine (spec_PlayRun_ok h60 V vc _ hX).mono ?_
    rintro e w3 ⟨A3, c3, D3, d3, rfl, hF3, hD3, _, hb⟩
    have hs3 := hb.size
    have hB3 := hBW2.trans (hb.mono hBW2.size)
    replace hX := hX.below hb (Nat.le_refl _)
    replace hHbx := hHbx.below hb (Nat.le_refl _)
    clear hb
    have hHby' := Held.ok HOK.out c3 d3 hF3.fl hD3
    replace hX := hX.below ((Below.refl w3.heap.size w3).alloc (Nat.le_refl _) (.cells #[.slice A3 4 c3, .slice D3 6 d3] 28)) (Nat.le_refl _)
    replace hHbx := hHbx.below ((Below.refl w3.heap.size w3).alloc (Nat.le_refl _) (.cells #[.slice A3 4 c3, .slice D3 6 d3] 28)) (Nat.le_refl _)
    have hBW3 := hB3.alloc hB3.size (.cells #[.slice A3 4 c3, .slice D3 6 d3] 28)
    have hzW3 : (w3.alloc (.cells #[.slice A3 4 c3, .slice D3 6 d3] 28)).heap.size = w3.heap.size + 1 := by simp
    obtain ⟨W3, hEW3⟩ : ∃ W, w3.alloc (.cells #[.slice A3 4 c3, .slice D3 6 d3] 28) = W := ⟨_, rfl⟩
    obtain ⟨by', hEby'⟩ : ∃ b, w3.heap.size = b := ⟨_, rfl⟩
    rw [hEW3] at hHby' hBW3 hzW3 hX hHbx
    rw [hEby'] at hHby' hzW3
    clear hF3 hD3
    have x0 := hHbx.x0
    have x1 := hHbx.x1
    have y0 := hHby'.x0
    have y1 := hHby'.x1
    go_wp2_with fail
    refine (laws_lqStore_ok HOK.out A2 D2 A3 D3 c2 d2 c3 d3 _ hHbx.fl hHbx.dk hHby'.fl hHby'.dk).mono ?_
    rintro e w4 ⟨rfl, hb⟩
    have hB4 := hBW3.trans (hb.mono hBW3.size)
    replace hX := hX.below hb (Nat.le_refl _)
    replace hHbx := hHbx.below hb (Nat.le_refl _)
    replace x0 := hHbx.x0
    replace x1 := hHbx.x1
    clear hb hHby' y0 y1 hBW3 hBW2 hB3 hB2 hB1
    have hz4 := hB4.size
    have hOn : OwnE (w4.alloc (.cells #[] 34)) w4.heap.size (.slice (some ⟨w4.heap.size, 0, none⟩) 0 0) [] := OwnE.nil w4 _ (Nat.le_refl _)
    have hXn := hX.alloc (.cells #[] 34)
    have hBn : Below w4.heap.size w4 (w4.alloc (.cells #[] 34)) := by (repeat (first | (with_reducible exact Below.refl _ _) | (with_reducible assumption) | (refine Below.setCell ?_ (by first | omega | exact hB.size | exact hb.size | (have h := hB.size; simp; omega) | (have h := hb.size; simp; omega) | (simp; omega) | simp) _) | (refine Below.alloc ?_ (by first | omega | exact hB.size | exact hb.size | (have h := hB.size; simp; omega) | (have h := hb.size; simp; omega) | (simp; omega) | simp) _) | (refine Below.drew ?_)))
    go_wp2_with (at_builtin; refine wpList_evs_any rfl (.tmp 51) (.tmp 52) rfl w4.heap.size (.slice (some ⟨w4.heap.size, 0, none⟩) 0 0) [] es rfl hOn V es.length es.length vc rfl rfl (by simp) hXn (by omega) (by simp) ?_; intro A9 c9 w7 hO7 hB7)
    rw [List.nil_append] at hO7
    have hB7' := hBn.trans hB7
    have hz7 : w4.heap.size ≤ w7.heap.size := hB7'.size
    obtain ⟨_, _, e9, hRw, hbw, _⟩ := hO7.out
    cases e9
    have HBW := Lib.hid hbw
    clear hOn hXn hBn hB7 hO7 hbw
    go_wp2
    go_loopw [9, 10] (fun t i wr => ∃ (k : Nat) (ys : List Ev), k ≤ es.length ∧ i = .int .i64 k ∧ OwnE wr w7.heap.size t ys ∧ Hid (ys = ((es.take k).map wholeEv).filter (fun e : Ev => decide (e.kind = 1))) ∧ ys.length ≤ k ∧ Row wr A9 (evs (wholeTo es k)) ∧ Below w4.heap.size w4 wr ∧ w7.heap.size ≤ wr.heap.size) (fun _ i _ => es.length - (intOf i).toNat)
    case atStart => exact ⟨0, [], by omega, rfl, OwnE.nil w7 _ (Nat.le_refl _), rfl, by simp, hRw.alloc _, hB7'.alloc hz7 _, by simp⟩
    case round =>
      obtain ⟨k, ys, hk, rfl, hO, hY, hyl, hRk, hBr, hzr⟩ := hrel
      clear hRw
      by_cases hlt : k < es.length
      · obtain ⟨x, hx⟩ := get_some hlt
        obtain ⟨vb, vo, rfl⟩ : ∃ b o, A9 = some ⟨b, o, none⟩ := hRk.addr (by intro e; have := evs_len (wholeTo es k); rw [e, wholeTo_len] at this; simp at this; omega)
        have hvb := HBW.out vb (blk_some.2 rfl)
        obtain ⟨hv1, hv2⟩ := hvb
        obtain ⟨hRn, hAg, m3, g3, m4, g4⟩ := whole_step hRk hx
        obtain ⟨p0, p1, p2, p3, p4⟩ := hRn.ev (wholeTo_get' hx)
        replace p0 : ((wr.setCell ⟨vb, vo + k * 5 + 3, none⟩ (.int .i64 60)).setCell ⟨vb, vo + k * 5 + 4, none⟩ (.bool false)).cell? ⟨vb, vo + k * 5, none⟩ = some (.int .i64 x.kind) := p0
        replace p1 : ((wr.setCell ⟨vb, vo + k * 5 + 3, none⟩ (.int .i64 60)).setCell ⟨vb, vo + k * 5 + 4, none⟩ (.bool false)).cell? ⟨vb, vo + k * 5 + 1, none⟩ = some (.int .i64 x.a) := p1
        replace p2 : ((wr.setCell ⟨vb, vo + k * 5 + 3, none⟩ (.int .i64 60)).setCell ⟨vb, vo + k * 5 + 4, none⟩ (.bool false)).cell? ⟨vb, vo + k * 5 + 2, none⟩ = some (.int .i64 x.b) := p2
        replace p3 : ((wr.setCell ⟨vb, vo + k * 5 + 3, none⟩ (.int .i64 60)).setCell ⟨vb, vo + k * 5 + 4, none⟩ (.bool false)).cell? ⟨vb, vo + k * 5 + 3, none⟩ = some (.int .i64 60) := p3
        replace p4 : ((wr.setCell ⟨vb, vo + k * 5 + 3, none⟩ (.int .i64 60)).setCell ⟨vb, vo + k * 5 + 4, none⟩ (.bool false)).cell? ⟨vb, vo + k * 5 + 4, none⟩ = some (.bool false) := p4
        have hO2 : OwnE ((wr.setCell ⟨vb, vo + k * 5 + 3, none⟩ (.int .i64 60)).setCell ⟨vb, vo + k * 5 + 4, none⟩ (.bool false)) w7.heap.size _ ys := hO.agr hAg (fun q h1 h2 => by omega)
        have hz2 := hAg.size
        have hB2 : Below w4.heap.size w4 ((wr.setCell ⟨vb, vo + k * 5 + 3, none⟩ (.int .i64 60)).setCell ⟨vb, vo + k * 5 + 4, none⟩ (.bool false)) := hBr.trans (hAg.below (B := w4.heap.size) (by omega) (fun i hi => by omega))
        have hk1 : (k : Int) < es.length := by omega
        have e1 : IntKind.i64.wrap ((k : Int) + 1) = (k : Int) + 1 := IntWalk.i64_in _ (by omega)
        have hnx : Hid (((es.take (k + 1)).map wholeEv).filter (fun e : Ev => decide (e.kind = 1)) = ys ++ [wholeEv x].filter (fun e : Ev => decide (e.kind = 1))) := by rw [Hid, List.take_add_one, hx, List.map_append, List.filter_append, ← hY.out]; rfl
        clear hx hY hRk hO hBr hAg
        by_cases h1 : x.kind = 1
        · have q1 : (x.kind == 1) = true := by rw [h1]; rfl
          have HK : Hid ([wholeEv x].filter (fun e : Ev => decide (e.kind = 1)) = [wholeEv x]) := by rw [Hid, List.filter_cons_of_pos, List.filter_nil]; exact decide_eq_true h1
          clear h1
          have hOl := hO2.alloc (.cells #[.int .i64 x.kind, .int .i64 x.a, .int .i64 x.b, .int .i64 60, .bool false] 34)
          have hRl := hRn.alloc (.cells #[.int .i64 x.kind, .int .i64 x.a, .int .i64 x.b, .int .i64 60, .bool false] 34)
          have hBl : Below w4.heap.size w4 (((wr.setCell ⟨vb, vo + k * 5 + 3, none⟩ (.int .i64 60)).setCell ⟨vb, vo + k * 5 + 4, none⟩ (.bool false)).alloc (.cells #[.int .i64 x.kind, .int .i64 x.a, .int .i64 x.b, .int .i64 60, .bool false] 34)) := hB2.alloc (by omega) _
          have hzl : (((wr.setCell ⟨vb, vo + k * 5 + 3, none⟩ (.int .i64 60)).setCell ⟨vb, vo + k * 5 + 4, none⟩ (.bool false)).alloc (.cells #[.int .i64 x.kind, .int .i64 x.a, .int .i64 x.b, .int .i64 60, .bool false] 34)).heap.size = ((wr.setCell ⟨vb, vo + k * 5 + 3, none⟩ (.int .i64 60)).setCell ⟨vb, vo + k * 5 + 4, none⟩ (.bool false)).heap.size + 1 := by simp
          have hzw : ((wr.setCell ⟨vb, vo + k * 5 + 3, none⟩ (.int .i64 60)).setCell ⟨vb, vo + k * 5 + 4, none⟩ (.bool false)).heap.size = wr.heap.size := by simp
          go_wp2_with (at_builtin; refine wpList_evs rfl (.tmp 75) (.tmp 80) rfl w7.heap.size u9 ys [wholeEv x] rfl hOl _ 0 1 (ys.length + 1) 1 rfl rfl rfl (by have h := Row.new ((wr.setCell ⟨vb, vo + k * 5 + 3, none⟩ (.int .i64 60)).setCell ⟨vb, vo + k * 5 + 4, none⟩ (.bool false)) #[.int .i64 x.kind, .int .i64 x.a, .int .i64 x.b, .int .i64 60, .bool false] 34; rw [hzw] at h; exact h) (by omega) (by omega) (by omega) ?_; intro g8 c8 w8 hO8 hB8)
          have hBz : Below w4.heap.size w4 w8 := hBl.trans (hB8.mono hz7)
          have hRz : Row w8 (some ⟨vb, vo, none⟩) (evs (wholeTo es (k + 1))) := hRl.keep fun c hc _ => hB8.block c (by rw [blk_some] at hc; omega)
          have hz8 := hB8.size
          clear hOl hRl hBl hB8 hRn hO2 hB2
          go_wp2
          go_roundw
          (case rel => exact ⟨k + 1, ys ++ [wholeEv x], by omega, by go_num, hO8, by rw [Hid, hnx.out, HK.out], by simp; omega, hRz, hBz, by omega⟩)
          (case measure => simp [intOf]; omega)
        · have q1 : (x.kind == 1) = false := by simpa using h1
          have HK : Hid ([wholeEv x].filter (fun e : Ev => decide (e.kind = 1)) = []) := by rw [Hid, List.filter_cons_of_neg, List.filter_nil]; exact fun h => h1 (of_decide_eq_true h)
          clear h1
          go_wp2
          go_roundw
          (case rel => exact ⟨k + 1, ys, by omega, by go_num, hO2, by rw [Hid, hnx.out, HK.out, List.append_nil], by omega, hRn, hB2, by simp; omega⟩)
          (case measure => simp [intOf]; omega)
      · have hk1 : ¬ (k : Int) < es.length := by omega
        rw [List.take_of_length_le (show es.length ≤ k by omega)] at hY
        rw [wholeTo_all es (show es.length ≤ k by omega)] at hRk
        obtain ⟨At, ct, rfl, hRy, hby, _⟩ := hO.out
        clear hby hO
        have HAL := Lib.hid (fun a (a1 : 1 ≤ a) (a2 : a ≤ 6) => run_alone a1 a2 (p := (fun e : Ev => decide (e.kind = 1))) (fun e h ⟨h1, h2⟩ => absurd (of_decide_eq_false h) (fun h3 => h3 h1)) es h60 HEF.out)
        rw [← hY.out] at HAL
        have HOW := Lib.hid (run_run (es.map wholeEv)).ok
        have HOY := Lib.hid (run_run ys).ok
        have hBh := hB4.trans (hBr.mono hz4)
        go_wp2_with fail
        refine (impl_PlayRun_n (es := es.map wholeEv) (by rw [List.length_map]; exact h60) A9 es.length c9 (by rw [List.length_map]) _ hRk).mono ?_
        rintro e w8 ⟨A8, c8, D8, d8, rfl, hF8, hD8, _, hb⟩
        have hB8 := hBh.trans (hb.mono hBh.size)
        replace hRy := hRy.below hb (Nat.le_refl _)
        clear hb
        have hHbt := Held.ok HOW.out c8 d8 hF8.fl hD8
        replace hRy := hRy.below ((Below.refl w8.heap.size w8).alloc (Nat.le_refl _) (.cells #[.slice A8 4 c8, .slice D8 6 d8] 28)) (Nat.le_refl _)
        have hBW8 := hB8.alloc hB8.size (.cells #[.slice A8 4 c8, .slice D8 6 d8] 28)
        have hzW8 : (w8.alloc (.cells #[.slice A8 4 c8, .slice D8 6 d8] 28)).heap.size = w8.heap.size + 1 := by simp
        obtain ⟨W8, hEW8⟩ : ∃ W, w8.alloc (.cells #[.slice A8 4 c8, .slice D8 6 d8] 28) = W := ⟨_, rfl⟩
        obtain ⟨bt, hEbt⟩ : ∃ b, w8.heap.size = b := ⟨_, rfl⟩
        rw [hEW8] at hHbt hBW8 hzW8 hRy
        rw [hEbt] at hHbt hzW8
        clear hF8 hD8 hB8
        go_wp2_with fail
        refine (impl_PlayRun_n (es := ys) (by omega) At ys.length ct rfl _ hRy).mono ?_
        rintro e w9 ⟨A10, c10, D10, d10, rfl, hF9, hD9, _, hb⟩
        have hB9 := hBW8.trans (hb.mono hBW8.size)
        replace hHbt := hHbt.below hb (Nat.le_refl _)
        clear hb hBW8
        have hHbu := Held.ok HOY.out c10 d10 hF9.fl hD9
        replace hHbt := hHbt.below ((Below.refl w9.heap.size w9).alloc (Nat.le_refl _) (.cells #[.slice A10 4 c10, .slice D10 6 d10] 28)) (Nat.le_refl _)
        have hBW9 := hB9.alloc hB9.size (.cells #[.slice A10 4 c10, .slice D10 6 d10] 28)
        have hzW9 : (w9.alloc (.cells #[.slice A10 4 c10, .slice D10 6 d10] 28)).heap.size = w9.heap.size + 1 := by simp
        obtain ⟨W9, hEW9⟩ : ∃ W, w9.alloc (.cells #[.slice A10 4 c10, .slice D10 6 d10] 28) = W := ⟨_, rfl⟩
        obtain ⟨bu, hEbu⟩ : ∃ b, w9.heap.size = b := ⟨_, rfl⟩
        rw [hEW9] at hHbu hBW9 hzW9 hHbt
        rw [hEbu] at hHbu hzW9
        have t0 := hHbt.x0
        have t1 := hHbt.x1
        have v0 := hHbu.x0
        have v1 := hHbu.x1
        clear hF9 hD9 hB9 x0 x1
        have hs := Lib.hid (fun X (h : Below W9.drew.heap.size W9.drew X) => hHbt.drew.below h (Nat.le_refl _))
        have ht := Lib.hid (fun X (h : Below W9.drew.heap.size W9.drew X) => hHbu.drew.below h (Nat.le_refl _))
        have hvb : Below W9.drew.heap.size W9.drew W9.drew := Below.refl _ _
        have hvd : Below w.heap.size w W9.drew := hBW9.drew
        clear hHbt hHbu
        have HAV : Hid (allV (doRun (es.map wholeEv)) = allV (doRun ys)) := allV_same (fun a a1 a2 => HAL.out a a1 a2)
        go_wp2
        refine wp_region_held_drew (S := fun X => X.cell? ⟨bt, 0, none⟩ = some (.slice A8 4 c8) ∧ X.cell? ⟨bt, 1, none⟩ = some (.slice D8 6 d8) ∧ X.cell? ⟨bu, 0, none⟩ = some (.slice A10 4 c10) ∧ X.cell? ⟨bu, 1, none⟩ = some (.slice D10 6 d10)) (by kernel_rfl) ⟨(hs.out _ hvb).x0, (hs.out _ hvb).x1, (ht.out _ hvb).x0, (ht.out _ hvb).x1⟩ (fun hHeld0 => ?_)
        refine wpAnyH_take (i := 0) (v := ?va1) rfl (by kernel_rfl) (by kernel_rfl) (by kernel_rfl) (fun _ _ _ h => h) (Or.inl ⟨by kernel_rfl, ?ya1⟩) hHeld0 ?ra1
        case ya1 => (intro w' hS; (try dsimp only at hS); obtain ⟨s0, s1, s2, s3⟩ := hS; (try go_simp); (try with_reducible rfl))
        try simp only [Act.put, List.getElem_toArray, List.getElem_cons_zero, List.getElem_cons_succ, List.setIfInBounds_toArray, List.set_cons_zero, List.set_cons_succ]
        refine wpAnyH_take (i := 1) (v := ?va2) rfl (by kernel_rfl) (by kernel_rfl) (by kernel_rfl) (fun _ _ _ h => h) (Or.inl ⟨by kernel_rfl, ?ya2⟩) hHeld0 ?ra2
        case ya2 => (intro w' hS; (try dsimp only at hS); obtain ⟨s0, s1, s2, s3⟩ := hS; (try go_simp); (try with_reducible rfl))
        try simp only [Act.put, List.getElem_toArray, List.getElem_cons_zero, List.getElem_cons_succ, List.setIfInBounds_toArray, List.set_cons_zero, List.set_cons_succ]
        refine wpAnyH_take (i := 2) (v := ?va3) rfl (by kernel_rfl) (by kernel_rfl) (by kernel_rfl) (fun _ _ _ h => h) (Or.inl ⟨by kernel_rfl, ?ya3⟩) hHeld0 ?ra3
        case ya3 => (intro w' hS; (try dsimp only at hS); obtain ⟨s0, s1, s2, s3⟩ := hS; (try go_simp); (try with_reducible rfl))
        try simp only [Act.put, List.getElem_toArray, List.getElem_cons_zero, List.getElem_cons_succ, List.setIfInBounds_toArray, List.set_cons_zero, List.set_cons_succ]
        refine wpAnyH_take (i := 3) (v := ?va4) rfl (by kernel_rfl) (by kernel_rfl) (by kernel_rfl) (fun _ _ _ h => h) (Or.inl ⟨by kernel_rfl, ?ya4⟩) hHeld0 ?ra4
        case ya4 => (intro w' hS; (try dsimp only at hS); obtain ⟨s0, s1, s2, s3⟩ := hS; (try go_simp); (try with_reducible rfl))
        try simp only [Act.put, List.getElem_toArray, List.getElem_cons_zero, List.getElem_cons_succ, List.setIfInBounds_toArray, List.set_cons_zero, List.set_cons_succ]
        refine wpAnyH_take (i := 4) (v := ?va5) rfl (by kernel_rfl) (by kernel_rfl) (by kernel_rfl) (fun _ _ _ h => h) (Or.inl ⟨by kernel_rfl, ?ya5⟩) hHeld0 ?ra5
        case ya5 => (intro w' hS; (try dsimp only at hS); obtain ⟨s0, s1, s2, s3⟩ := hS; (try go_simp); (try with_reducible rfl))
        try simp only [Act.put, List.getElem_toArray, List.getElem_cons_zero, List.getElem_cons_succ, List.setIfInBounds_toArray, List.set_cons_zero, List.set_cons_succ]
        refine wpAnyH_take (i := 5) (v := ?va6) rfl (by kernel_rfl) (by kernel_rfl) (by kernel_rfl) (fun _ _ _ h => h) (Or.inl ⟨by kernel_rfl, ?ya6⟩) hHeld0 ?ra6
        case ya6 => (intro w' hS; (try dsimp only at hS); obtain ⟨s0, s1, s2, s3⟩ := hS; (try go_simp); (try with_reducible rfl))
        try simp only [Act.put, List.getElem_toArray, List.getElem_cons_zero, List.getElem_cons_succ, List.setIfInBounds_toArray, List.set_cons_zero, List.set_cons_succ]
        refine wpAnyH_take (i := 7) (v := ?va7) rfl (by kernel_rfl) (by kernel_rfl) (by kernel_rfl) (fun _ _ _ h => h) (Or.inl ⟨by kernel_rfl, ?ya7⟩) hHeld0 ?ra7
        case ya7 => (intro w' hS; (try dsimp only at hS); obtain ⟨s0, s1, s2, s3⟩ := hS; (try go_simp); (try with_reducible rfl))
        try simp only [Act.put, List.getElem_toArray, List.getElem_cons_zero, List.getElem_cons_succ, List.setIfInBounds_toArray, List.set_cons_zero, List.set_cons_succ]
        refine wpAnyH_ready (rs := [6]) (by kernel_rfl) (by simp) ?_
        refine AllReadyH.cons rfl (fun K hK => ?_) AllReadyH.nil
        go_simp
        refine (impl_StoreAll_ok HOW.out A8 D8 c8 d8 _ (hs.out _ hvb).fl (hs.out _ hvb).dk).mono ?_
        rintro e au1 ⟨A11, c11, rfl, hL11, hc⟩
        have ab1 := hvb.trans (hc.mono hvb.size)
        clear hc
        go_wp2_with fail
        refine hK.out _ _ (⟨(hs.out _ ab1).x0, (hs.out _ ab1).x1, (ht.out _ ab1).x0, (ht.out _ ab1).x1⟩) (fun hHa1 => ?_)
        clear hK K
        try simp only [Act.put, List.getElem_toArray, List.getElem_cons_zero, List.getElem_cons_succ, List.setIfInBounds_toArray, List.set_cons_zero, List.set_cons_succ]
        refine wpAnyH_ready (rs := [8]) (by kernel_rfl) (by simp) ?_
        refine AllReadyH.cons rfl (fun K hK => ?_) AllReadyH.nil
        go_simp
        refine (impl_StoreAll_ok HOY.out A10 D10 c10 d10 _ (ht.out _ ab1).fl (ht.out _ ab1).dk).mono ?_
        rintro e au2 ⟨A12, c12, rfl, hL12, hc⟩
        have ab2 := ab1.trans (hc.mono ab1.size)
        replace hL11 := hL11.below hc (Nat.le_refl _)
        clear hc
        go_wp2_with fail
        refine hK.out _ _ (⟨(hs.out _ ab2).x0, (hs.out _ ab2).x1, (ht.out _ ab2).x0, (ht.out _ ab2).x1⟩) (fun hHa2 => ?_)
        clear hK K
        try simp only [Act.put, List.getElem_toArray, List.getElem_cons_zero, List.getElem_cons_succ, List.setIfInBounds_toArray, List.set_cons_zero, List.set_cons_succ]
        refine wpAnyH_ready (rs := [9]) (by kernel_rfl) (by simp) ?_
        refine AllReadyH.cons rfl (fun K hK => ?_) AllReadyH.nil
        go_simp
        refine (laws_lqInts_6 HAV.out rfl A11 A12 c11 c12 _ hL11 hL12).mono ?_
        rintro e au3 ⟨rfl, hc⟩
        have ab3 := ab2.trans (hc.mono ab2.size)
        replace hL11 := hL11.below hc (Nat.le_refl _)
        replace hL12 := hL12.below hc (Nat.le_refl _)
        clear hc
        go_wp2_with fail
        refine hK.out _ _ (⟨(hs.out _ ab3).x0, (hs.out _ ab3).x1, (ht.out _ ab3).x0, (ht.out _ ab3).x1⟩) (fun hHa3 => ?_)
        clear hK K
        try simp only [Act.put, List.getElem_toArray, List.getElem_cons_zero, List.getElem_cons_succ, List.setIfInBounds_toArray, List.set_cons_zero, List.set_cons_succ]
        refine wpAnyH_take (i := 10) (v := ?va8) rfl (by kernel_rfl) (by kernel_rfl) (by kernel_rfl) (fun _ _ _ h => h) (Or.inl ⟨by kernel_rfl, ?ya8⟩) hHa3 ?ra8
        case ya8 => (intro w' hS; (try dsimp only at hS); obtain ⟨s0, s1, s2, s3⟩ := hS; (try go_simp); (try with_reducible rfl))
        try simp only [Act.put, List.getElem_toArray, List.getElem_cons_zero, List.getElem_cons_succ, List.setIfInBounds_toArray, List.set_cons_zero, List.set_cons_succ]
        refine wpAnyH_take (i := 11) (v := ?va9) rfl (by kernel_rfl) (by kernel_rfl) (by kernel_rfl) (fun _ _ _ h => h) (Or.inl ⟨by kernel_rfl, ?ya9⟩) hHa3 ?ra9
        case ya9 => (intro w' hS; (try dsimp only at hS); obtain ⟨s0, s1, s2, s3⟩ := hS; (try go_simp); (try with_reducible rfl))
        try simp only [Act.put, List.getElem_toArray, List.getElem_cons_zero, List.getElem_cons_succ, List.setIfInBounds_toArray, List.set_cons_zero, List.set_cons_succ]
        refine wpAnyH_done (by kernel_rfl) ?_ _
        have hBf := hvd.trans (ab3.mono (by have h := hvd.size; exact h))
        go_wp2
        go_ret
        exact ⟨rfl, hBf⟩
  · have h61 : 60 < es.length := by omega
    go_wp2_with fail
    refine (impl_PlayRun_no h61 (by omega) V vc _ hX).mono ?_
    rintro e w2 ⟨A2, c2, D2, d2, rfl, hb⟩
    have hs2 := hb.size
    have hB2 := hB1.trans (hb.mono hB1.size)
    replace hX := hX.below hb (Nat.le_refl _)
    clear hb
    have hHbx := Held.no w2 A2 D2 c2 d2
    replace hX := hX.below ((Below.refl w2.heap.size w2).alloc (Nat.le_refl _) (.cells #[.slice A2 0 c2, .slice D2 0 d2] 28)) (Nat.le_refl _)
    have hBW2 := hB2.alloc hB2.size (.cells #[.slice A2 0 c2, .slice D2 0 d2] 28)
    have hzW2 : (w2.alloc (.cells #[.slice A2 0 c2, .slice D2 0 d2] 28)).heap.size = w2.heap.size + 1 := by simp
    obtain ⟨W2, hEW2⟩ : ∃ W, w2.alloc (.cells #[.slice A2 0 c2, .slice D2 0 d2] 28) = W := ⟨_, rfl⟩
    obtain ⟨bx, hEbx⟩ : ∃ b, w2.heap.size = b := ⟨_, rfl⟩
    rw [hEW2] at hHbx hBW2 hzW2 hX
    rw [hEbx] at hHbx hzW2
    go_wp2_with fail
    refine (spec_PlayRun_no h61 (by omega) V vc _ hX).mono ?_
    rintro e w3 ⟨A3, c3, D3, d3, rfl, hb⟩
    have hs3 := hb.size
    have hB3 := hBW2.trans (hb.mono hBW2.size)
    replace hX := hX.below hb (Nat.le_refl _)
    replace hHbx := hHbx.below hb (Nat.le_refl _)
    clear hb
    have hHby' := Held.no w3 A3 D3 c3 d3
    replace hX := hX.below ((Below.refl w3.heap.size w3).alloc (Nat.le_refl _) (.cells #[.slice A3 0 c3, .slice D3 0 d3] 28)) (Nat.le_refl _)
    replace hHbx := hHbx.below ((Below.refl w3.heap.size w3).alloc (Nat.le_refl _) (.cells #[.slice A3 0 c3, .slice D3 0 d3] 28)) (Nat.le_refl _)
    have hBW3 := hB3.alloc hB3.size (.cells #[.slice A3 0 c3, .slice D3 0 d3] 28)
    have hzW3 : (w3.alloc (.cells #[.slice A3 0 c3, .slice D3 0 d3] 28)).heap.size = w3.heap.size + 1 := by simp
    obtain ⟨W3, hEW3⟩ : ∃ W, w3.alloc (.cells #[.slice A3 0 c3, .slice D3 0 d3] 28) = W := ⟨_, rfl⟩
    obtain ⟨by', hEby'⟩ : ∃ b, w3.heap.size = b := ⟨_, rfl⟩
    rw [hEW3] at hHby' hBW3 hzW3 hX hHbx
    rw [hEby'] at hHby' hzW3
    have x0 := hHbx.x0
    have x1 := hHbx.x1
    have y0 := hHby'.x0
    have y1 := hHby'.x1
    go_wp2_with fail
    refine (laws_lqStore_no A2 D2 A3 D3 c2 d2 c3 d3 _).mono ?_
    rintro e w4 ⟨rfl, hb⟩
    have hB4 := hBW3.trans (hb.mono hBW3.size)
    replace hX := hX.below hb (Nat.le_refl _)
    replace hHbx := hHbx.below hb (Nat.le_refl _)
    replace hHby' := hHby'.below hb (Nat.le_refl _)
    replace x0 := hHbx.x0
    replace x1 := hHbx.x1
    replace y0 := hHby'.x0
    replace y1 := hHby'.x1
    clear hb hBW3 hBW2 hB3 hB2 hB1
    go_wp2_with fail
    refine (laws_lqStore_no A2 D2 A3 D3 c2 d2 c3 d3 _).mono ?_
    rintro e w5 ⟨rfl, hb⟩
    have hB5 := hB4.trans (hb.mono hB4.size)
    go_wp2
    go_ret
    exact ⟨rfl, hB5⟩
end Go.Proofs.Ytohkoogmbfaceaa
