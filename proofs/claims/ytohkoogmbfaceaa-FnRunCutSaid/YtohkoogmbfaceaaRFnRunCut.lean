/- Walks: laws over plays: FnRunCut. -/
import Derived.Test.YtohkoogmbfaceaaZ7
namespace Go.Proofs.Ytohkoogmbfaceaa
set_option linter.unusedVariables false
set_option linter.unusedSimpArgs false
open Go.RowKit Go.Maps
set_option maxHeartbeats 400000
set_option maxHeartbeats 8000000 in
set_option maxRecDepth 100000 in
theorem law_FnRunCut {w : World} (A : Option Addr) (bs : List Nat) (c : Nat) (hc : Code w A bs c) (A' : Option Addr) (bs' : List Nat) (c' : Nat) (hc' : Code w A' bs' c') :
    Calls Try.prog 3 #[.slice A bs.length c, .slice A' bs'.length c'] w fun e w' => e = .returned (.bool true) ∧ Below w.heap.size w w' := by
  by_cases hlen : (1048576 : Int) < bs.length
  · go_enter Try.func3, Try.ntmps3
    go_wp2
    go_ret
    exact ⟨rfl, Below.refl _ _⟩
  by_cases hlen' : (1048576 : Int) < bs'.length
  · go_enter Try.func3, Try.ntmps3
    go_wp2
    go_ret
    exact ⟨rfl, Below.refl _ _⟩
  go_enter Try.func3, Try.ntmps3
  go_wp2_with fail
  refine (spec_DrawPlayRun A bs c _ hc).mono ?_
  rintro e w1 ⟨v, es, rfl, hE, hel, hef, hB1⟩
  obtain ⟨V, vc, rfl, hX, _, _⟩ := hE.out
  have hs1 := hB1.size
  have HEF := Lib.hid hef
  clear hE hef
  by_cases h60 : es.length ≤ 60
  · have HOK := Lib.hid (run_run es).ok
    go_wp2_with fail
    refine (impl_PlayRun_ok h60 V vc _ hX).mono ?_
    rintro e w2 ⟨A2, c2, D2, d2, rfl, hF2, hD2, _, hb⟩
    have hs2 := hb.size
    have hB2 := hB1.trans (hb.mono hB1.size)
    replace hX := hX.below hb (Nat.le_refl _)
    clear hb
    have hHbx := Held.ok HOK.out c2 d2 hF2.fl hD2
    replace hX := hX.below ((Below.refl w2.heap.size w2).alloc (Nat.le_refl _) (.cells #[.slice A2 4 c2, .slice D2 6 d2] 28)) (Nat.le_refl _)
    have hBW2 := hB2.alloc hB2.size (.cells #[.slice A2 4 c2, .slice D2 6 d2] 28)
    have hzW2 : (w2.alloc (.cells #[.slice A2 4 c2, .slice D2 6 d2] 28)).heap.size = w2.heap.size + 1 := by simp
    obtain ⟨W2, hEW2⟩ : ∃ W, w2.alloc (.cells #[.slice A2 4 c2, .slice D2 6 d2] 28) = W := ⟨_, rfl⟩
    obtain ⟨bx, hEbx⟩ : ∃ b, w2.heap.size = b := ⟨_, rfl⟩
    rw [hEW2] at hHbx hBW2 hzW2 hX
    rw [hEbx] at hHbx hzW2
    clear hF2 hD2
    go_wp2_with fail
    refine (spec_PlayRun_ok h60 V vc _ hX).mono ?_
    rintro e w3 ⟨A3, c3, D3, d3, rfl, hF3, hD3, _, hb⟩
    have hs3 := hb.size
    have hB3 := hBW2.trans (hb.mono hBW2.size)
    replace hX := hX.below hb (Nat.le_refl _)
    replace hHbx := hHbx.below hb (Nat.le_refl _)
    clear hb
    have hHby' := Held.ok HOK.out c3 d3 hF3.fl hD3
    replace hX := hX.below ((Below.refl w3.heap.size w3).alloc (Nat.le_refl _) (.cells #[.slice A3 4 c3, .slice D3 6 d3] 28)) (Nat.le_refl _)
    replace hHbx := hHbx.below ((Below.refl w3.heap.size w3).alloc (Nat.le_refl _) (.cells #[.slice A3 4 c3, .slice D3 6 d3] 28)) (Nat.le_refl _)
    have hBW3 := hB3.alloc hB3.size (.cells #[.slice A3 4 c3, .slice D3 6 d3] 28)
    have hzW3 : (w3.alloc (.cells #[.slice A3 4 c3, .slice D3 6 d3] 28)).heap.size = w3.heap.size + 1 := by simp
    obtain ⟨W3, hEW3⟩ : ∃ W, w3.alloc (.cells #[.slice A3 4 c3, .slice D3 6 d3] 28) = W := ⟨_, rfl⟩
    obtain ⟨by', hEby'⟩ : ∃ b, w3.heap.size = b := ⟨_, rfl⟩
    rw [hEW3] at hHby' hBW3 hzW3 hX hHbx
    rw [hEby'] at hHby' hzW3
    clear hF3 hD3
    have x0 := hHbx.x0
    have x1 := hHbx.x1
    have y0 := hHby'.x0
    have y1 := hHby'.x1
    go_wp2_with fail
    refine (laws_lqStore_ok HOK.out A2 D2 A3 D3 c2 d2 c3 d3 _ hHbx.fl hHbx.dk hHby'.fl hHby'.dk).mono ?_
    rintro e w4 ⟨rfl, hb⟩
    have hB4 := hBW3.trans (hb.mono hBW3.size)
    replace hX := hX.below hb (Nat.le_refl _)
    replace hHbx := hHbx.below hb (Nat.le_refl _)
    replace x0 := hHbx.x0
    replace x1 := hHbx.x1
    clear hb hHby' y0 y1 hBW3 hBW2 hB3 hB2 hB1
    obtain ⟨q, hq⟩ : ∃ q : Nat, bs'.length % (es.length + 1) = q := ⟨_, rfl⟩
    have hql : q ≤ es.length := by have := Nat.mod_lt bs'.length (show 0 < es.length + 1 by omega); omega
    have r1 : Int.tmod (bs'.length : Int) ((es.length : Int) + 1) = (q : Int) := by rw [Int.tmod_eq_emod_of_nonneg (by omega), ← hq]; rfl
    have r2 : (bs'.length : Int) % ((es.length : Int) + 1) = (q : Int) := by rw [← hq]; rfl
    have e0 : IntKind.i64.wrap ((es.length : Int) + 1) = (es.length : Int) + 1 := IntWalk.i64_in _ (by omega)
    have hqi : (q : Int) ≤ es.length := by omega
    clear hq
    go_wp2_with fail
    refine (impl_PlayRun_n (es := es.take q) (by rw [List.length_take]; omega) V q vc (by rw [List.length_take]; omega) _ (hX.evs_take q)).mono ?_
    rintro e w5 ⟨A5, c5, D5, d5, rfl, hF5, hD5, _, hb⟩
    have hB5 := hB4.trans (hb.mono hB4.size)
    replace hX := hX.below hb (Nat.le_refl _)
    replace hHbx := hHbx.below hb (Nat.le_refl _)
    have hH5 := HeldF.new (run_run (es.take q)).ok c5 d5 hF5.fl hD5
    clear hb hF5 hD5
    obtain ⟨bt, hbt⟩ : ∃ b, w5.heap.size = b := ⟨_, rfl⟩
    rw [hbt] at hH5
    have HBT := Lib.hid hbt
    go_wp2
    (try simp only [hbt])
    go_loopw [13] (fun i wr => ∃ (k : Nat) (Ak Dk : Option Addr) (ck dk : Nat), (q ≤ k ∧ k ≤ es.length) ∧ i = .int .i64 k ∧ HeldF wr bt Ak Dk ck dk (doRun (es.take k)) ∧ Below bt w5 wr) (fun i _ => es.length - (intOf i).toNat)
    case atStart => exact ⟨q, A5, D5, c5, d5, ⟨Nat.le_refl _, hql⟩, rfl, hH5, by have := HBT.out; refine Below.alloc (Below.refl _ _) ?_ _; omega⟩
    case round =>
      obtain ⟨k, Ak, Dk, ck, dk, ⟨hk0, hk⟩, rfl, hHk, hBr⟩ := hrel
      clear hH5
      have hXr := hX.below hBr (by rw [hbt]; exact Nat.le_refl _)
      have hHr := hHbx.below hBr (by rw [hbt]; exact Nat.le_refl _)
      by_cases hlt : k < es.length
      · obtain ⟨x, hx⟩ := get_some hlt
        have hXi := hXr
        obtain ⟨vb, vo, rfl⟩ := hXi.addr (by intro e; have := evs_len es; rw [e] at this; simp at this; omega)
        obtain ⟨c0', c1', c2', c3', c4'⟩ := hXi.ev hx
        have hk1 : (k : Int) < es.length := by omega
        have e1 : IntKind.i64.wrap ((k : Int) + 1) = (k : Int) + 1 := IntWalk.i64_in _ (by omega)
        have hnx : Hid (doRun (es.take (k + 1)) = doEv (doRun (es.take k)) x) := by rw [Hid, List.take_add_one, hx]; exact run_snoc _ _
        have hOKk := Lib.hid (run_run (es.take k)).ok
        clear hx hXi hXr hHr x0 x1
        have z0 := hHk.held.x0
        have z1 := hHk.held.x1
        have z2 := hHk.f0
        have z3 := hHk.f1
        go_wp2
        have hHd := hHk.drew
        have hbt : bt < wr.drew.heap.size := lt_of_cell hHd.held.x0
        go_region_with (first | (go_at_call 18; refine (impl_PlayDo_ok hOKk.out x.kind x.a x.b x.c x.torn Ak Dk ck dk _ hHd.held.fl hHd.held.dk).mono ?_; rintro e w6 ⟨A6, c6, D6, d6, rfl, hF6, hD6, hl6, hb6⟩; have d0 := (hb6.cell (p := ⟨bt, 0, none⟩) hbt).trans hHd.held.x0; have d1 := (hb6.cell (p := ⟨bt, 1, none⟩) hbt).trans hHd.held.x1; have d2 := (hb6.frozen (p := ⟨bt, 0, none⟩) hbt).trans hHd.f0; have d3 := (hb6.frozen (p := ⟨bt, 1, none⟩) hbt).trans hHd.f1))
        all_goals
          have hP := (hHd.below hb6 (Nat.le_refl _)).put (c' := c6) (d' := d6) (doEv_evt hOKk.out x).ok hF6 hbt hD6 hl6
          have hz6 : bt < w6.heap.size := Nat.lt_of_lt_of_le hbt hb6.size
          have hBn := (hBr.trans (undrew hb6 |>.mono (by have h : bt < wr.heap.size := hbt; omega))).setCell (p := ⟨bt, 0, none⟩) (show bt ≤ bt from Nat.le_refl _) (.slice A6 4 c6) |>.setCell (p := ⟨bt, 1, none⟩) (show bt ≤ bt from Nat.le_refl _) (.slice D6 6 d6)
          clear hF6 hD6 hl6 hb6
          go_wp2
          go_roundw
          (case rel => exact ⟨k + 1, A6, D6, c6, d6, ⟨by omega, by omega⟩, by go_num, by rw [hnx.out]; exact hP, hBn⟩)
          (case measure => simp [intOf]; omega)
      · have hk1 : ¬ (k : Int) < es.length := by omega
        have htk : es.take k = es := List.take_of_length_le (by omega)
        rw [htk] at hHk
        have z0 := hHk.held.x0
        have z1 := hHk.held.x1
        replace x0 := hHr.x0
        replace x1 := hHr.x1
        clear htk
        go_wp2_with fail
        refine (laws_lqStore_ok HOK.out Ak Dk A2 D2 ck dk c2 d2 _ hHk.held.fl hHk.held.dk hHr.fl hHr.dk).mono ?_
        rintro e w7 ⟨rfl, hb⟩
        have hbs := hBr.size
        have hBf := hB5.trans ((hBr.trans (hb.mono (by have := HBT.out; omega))).mono (by have := hB5.size; have := HBT.out; omega))
        go_wp2
        go_ret
        exact ⟨rfl, hBf⟩
  · have h61 : 60 < es.length := by omega
    go_wp2_with fail
    refine (impl_PlayRun_no h61 (by omega) V vc _ hX).mono ?_
    rintro e w2 ⟨A2, c2, D2, d2, rfl, hb⟩
    have hs2 := hb.size
    have hB2 := hB1.trans (hb.mono hB1.size)
    replace hX := hX.below hb (Nat.le_refl _)
    clear hb
    have hHbx := Held.no w2 A2 D2 c2 d2
    replace hX := hX.below ((Below.refl w2.heap.size w2).alloc (Nat.le_refl _) (.cells #[.slice A2 0 c2, .slice D2 0 d2] 28)) (Nat.le_refl _)
    have hBW2 := hB2.alloc hB2.size (.cells #[.slice A2 0 c2, .slice D2 0 d2] 28)
    have hzW2 : (w2.alloc (.cells #[.slice A2 0 c2, .slice D2 0 d2] 28)).heap.size = w2.heap.size + 1 := by simp
    obtain ⟨W2, hEW2⟩ : ∃ W, w2.alloc (.cells #[.slice A2 0 c2, .slice D2 0 d2] 28) = W := ⟨_, rfl⟩
    obtain ⟨bx, hEbx⟩ : ∃ b, w2.heap.size = b := ⟨_, rfl⟩
    rw [hEW2] at hHbx hBW2 hzW2 hX
    rw [hEbx] at hHbx hzW2
    go_wp2_with fail
    refine (spec_PlayRun_no h61 (by omega) V vc _ hX).mono ?_
    rintro e w3 ⟨A3, c3, D3, d3, rfl, hb⟩
    have hs3 := hb.size
    have hB3 := hBW2.trans (hb.mono hBW2.size)
    replace hX := hX.below hb (Nat.le_refl _)
    replace hHbx := hHbx.below hb (Nat.le_refl _)
    clear hb
    have hHby' := Held.no w3 A3 D3 c3 d3
    replace hX := hX.below ((Below.refl w3.heap.size w3).alloc (Nat.le_refl _) (.cells #[.slice A3 0 c3, .slice D3 0 d3] 28)) (Nat.le_refl _)
    replace hHbx := hHbx.below ((Below.refl w3.heap.size w3).alloc (Nat.le_refl _) (.cells #[.slice A3 0 c3, .slice D3 0 d3] 28)) (Nat.le_refl _)
    have hBW3 := hB3.alloc hB3.size (.cells #[.slice A3 0 c3, .slice D3 0 d3] 28)
    have hzW3 : (w3.alloc (.cells #[.slice A3 0 c3, .slice D3 0 d3] 28)).heap.size = w3.heap.size + 1 := by simp
    obtain ⟨W3, hEW3⟩ : ∃ W, w3.alloc (.cells #[.slice A3 0 c3, .slice D3 0 d3] 28) = W := ⟨_, rfl⟩
    obtain ⟨by', hEby'⟩ : ∃ b, w3.heap.size = b := ⟨_, rfl⟩
    rw [hEW3] at hHby' hBW3 hzW3 hX hHbx
    rw [hEby'] at hHby' hzW3
    have x0 := hHbx.x0
    have x1 := hHbx.x1
    have y0 := hHby'.x0
    have y1 := hHby'.x1
    go_wp2_with fail
    refine (laws_lqStore_no A2 D2 A3 D3 c2 d2 c3 d3 _).mono ?_
    rintro e w4 ⟨rfl, hb⟩
    have hB4 := hBW3.trans (hb.mono hBW3.size)
    replace hX := hX.below hb (Nat.le_refl _)
    replace hHbx := hHbx.below hb (Nat.le_refl _)
    replace hHby' := hHby'.below hb (Nat.le_refl _)
    replace x0 := hHbx.x0
    replace x1 := hHbx.x1
    replace y0 := hHby'.x0
    replace y1 := hHby'.x1
    clear hb hBW3 hBW2 hB3 hB2 hB1
    go_wp2_with fail
    refine (laws_lqStore_no A2 D2 A3 D3 c2 d2 c3 d3 _).mono ?_
    rintro e w5 ⟨rfl, hb⟩
    have hB5 := hB4.trans (hb.mono hB4.size)
    go_wp2
    go_ret
    exact ⟨rfl, hB5⟩
end Go.Proofs.Ytohkoogmbfaceaa
