/- Walks: laws over plays: FnRunNever. -/
import Derived.Test.YtbekihiiildgmaaZ7
namespace Go.Proofs.Ytbekihiiildgmaa
set_option linter.unusedVariables false
set_option linter.unusedSimpArgs false
open Go.RowKit Go.Maps
set_option maxHeartbeats 400000
set_option maxHeartbeats 8000000 in
set_option maxRecDepth 100000 in
theorem law_FnRunNever {w : World} (A : Option Addr) (bs : List Nat) (c : Nat) (hc : Code w A bs c) :
    Calls Try.prog 9 #[.slice A bs.length c] w fun e w' => e = .returned (.bool true) ∧ Below w.heap.size w w' := by
  by_cases hlen : (1048576 : Int) < bs.length
  · go_enter Try.func9, Try.ntmps9
    go_wp2
    go_ret
    exact ⟨rfl, Below.refl _ _⟩
  go_enter Try.func9, Try.ntmps9
  go_wp2_with fail
  refine (spec_DrawPlayRun A bs c _ hc).mono ?_
  rintro e w1 ⟨v, es, rfl, hE, hel, hef, hB1⟩
  obtain ⟨V, vc, rfl, hX, _, _⟩ := hE.out
  have hs1 := hB1.size
  have HEF := Lib.hid hef
  clear hE hef
  by_cases h60 : es.length ≤ 60
  · have HOK := Lib.hid (run_run es).ok
    go_wp2_with fail
    refine (impl_PlayRun_ok h60 V vc _ hX).mono ?_
    rintro e w2 ⟨A2, c2, D2, d2, rfl, hF2, hD2, _, hb⟩
    have hs2 := hb.size
    have hB2 := hB1.trans (hb.mono hB1.size)
    replace hX := hX.below hb (Nat.le_refl _)
    clear hb
    have hHbx := Held.ok HOK.out c2 d2 hF2.fl hD2
    replace hX := hX.below ((Below.refl w2.heap.size w2).alloc (Nat.le_refl _) (.cells #[.slice A2 4 c2, .slice D2 6 d2] 26)) (Nat.le_refl _)
    have hBW2 := hB2.alloc hB2.size (.cells #[.slice A2 4 c2, .slice D2 6 d2] 26)
    have hzW2 : (w2.alloc (.cells #[.slice A2 4 c2, .slice D2 6 d2] 26)).heap.size = w2.heap.size + 1 := by simp
    obtain ⟨W2, hEW2⟩ : ∃ W, w2.alloc (.cells #[.slice A2 4 c2, .slice D2 6 d2] 26) = W := ⟨_, rfl⟩
    obtain ⟨bx, hEbx⟩ : ∃ b, w2.heap.size = b := ⟨_, rfl⟩
    rw [hEW2] at hHbx hBW2 hzW2 hX
    rw [hEbx] at hHbx hzW2
    clear hF2 hD2
    go_wp2_with fail
    refine (spec_PlayRun_ok h60 V vc _ hX).mono ?_
    rintro e w3 ⟨A3, c3, D3, d3, rfl, hF3, hD3, _, hb⟩
    have hs3 := hb.size
    have hB3 := hBW2.trans (hb.mono hBW2.size)
    replace hX := hX.below hb (Nat.le_refl _)
    replace hHbx := hHbx.below hb (Nat.le_refl _)
    clear hb
    have hHby' := Held.ok HOK.out c3 d3 hF3.fl hD3
    replace hX := hX.below ((Below.refl w3.heap.size w3).alloc (Nat.le_refl _) (.cells #[.slice A3 4 c3, .slice D3 6 d3] 26)) (Nat.le_refl _)
    replace hHbx := hHbx.below ((Below.refl w3.heap.size w3).alloc (Nat.le_refl _) (.cells #[.slice A3 4 c3, .slice D3 6 d3] 26)) (Nat.le_refl _)
    have hBW3 := hB3.alloc hB3.size (.cells #[.slice A3 4 c3, .slice D3 6 d3] 26)
    have hzW3 : (w3.alloc (.cells #[.slice A3 4 c3, .slice D3 6 d3] 26)).heap.size = w3.heap.size + 1 := by simp
    obtain ⟨W3, hEW3⟩ : ∃ W, w3.alloc (.cells #[.slice A3 4 c3, .slice D3 6 d3] 26) = W := ⟨_, rfl⟩
    obtain ⟨by', hEby'⟩ : ∃ b, w3.heap.size = b := ⟨_, rfl⟩
    rw [hEW3] at hHby' hBW3 hzW3 hX hHbx
    rw [hEby'] at hHby' hzW3
    clear hF3 hD3
    have x0 := hHbx.x0
    have x1 := hHbx.x1
    have y0 := hHby'.x0
    have y1 := hHby'.x1
    go_wp2_with fail
    refine (laws_lqStore_ok HOK.out A2 D2 A3 D3 c2 d2 c3 d3 _ hHbx.fl hHbx.dk hHby'.fl hHby'.dk).mono ?_
    rintro e w4 ⟨rfl, hb⟩
    have hB4 := hBW3.trans (hb.mono hBW3.size)
    replace hX := hX.below hb (Nat.le_refl _)
    replace hHbx := hHbx.below hb (Nat.le_refl _)
    replace x0 := hHbx.x0
    replace x1 := hHbx.x1
    clear hb hHby' y0 y1 hBW3 hBW2 hB3 hB2 hB1
    go_wp2_with fail
    refine (impl_StoreAll_ok HOK.out A2 D2 c2 d2 _ hHbx.fl hHbx.dk).mono ?_
    rintro e w6 ⟨A6, c6, rfl, hL6, hb⟩
    have hB6 := hB4.trans (hb.mono hB4.size)
    replace hX := hX.below hb (Nat.le_refl _)
    replace hHbx := hHbx.below hb (Nat.le_refl _)
    replace x0 := hHbx.x0
    replace x1 := hHbx.x1
    clear hb hB4
    obtain ⟨lb, lo, rfl⟩ := hL6.addr (ints_ne' (by intro e; have := congrArg List.length e; rw [allV_len] at this; simp at this))
    go_wp2
    go_loopw [9] (fun q wr => ∃ k : Nat, k ≤ 6 ∧ q = .int .i64 ((k : Int) + 1) ∧ Below w6.heap.size w6 wr) (fun q _ => 7 - (intOf q).toNat)
    case atStart => exact ⟨0, by omega, rfl, Below.refl _ _⟩
    case round =>
      obtain ⟨k, hk, rfl, hBr⟩ := hrel
      rename World => wo
      by_cases hlt : k < 6
      · have hk1 : (k : Int) + 1 ≤ 6 := by omega
        have e1 : IntKind.i64.wrap ((k : Int) + 1 + 1) = (k : Int) + 1 + 1 := IntWalk.i64_in _ (by omega)
        have hXr := hX.below hBr (Nat.le_refl _)
        go_wp2
        go_loopw [10, 11] (fun t i wi => ∃ (j : Nat) (ys : List Int), j ≤ es.length ∧ i = .int .i64 j ∧ OwnI wi wo.heap.size t ys ∧ Hid (ys = (es.take j).foldl (canStep ((k : Int) + 1)) [0]) ∧ ys.length ≤ 1 + j ∧ Below wo.heap.size wo wi) (fun _ i _ => es.length - (intOf i).toNat)
        case atStart => exact ⟨0, [0], by omega, rfl, OwnI.one wo _ 0 (Nat.le_refl _), rfl, by simp, by (repeat (first | (with_reducible exact Below.refl _ _) | (with_reducible assumption) | (refine Below.setCell ?_ (by first | omega | exact hB.size | exact hb.size | (have h := hB.size; simp; omega) | (have h := hb.size; simp; omega) | (simp; omega) | simp) _) | (refine Below.alloc ?_ (by first | omega | exact hB.size | exact hb.size | (have h := hB.size; simp; omega) | (have h := hb.size; simp; omega) | (simp; omega) | simp) _) | (refine Below.drew ?_)))⟩
        case round =>
          obtain ⟨j, ys, hj, rfl, hO, hY, hyl, hBi⟩ := hrel
          rename World => wi
          have hzi := hBi.size
          by_cases hlt2 : j < es.length
          · obtain ⟨x, hx⟩ := get_some hlt2
            have hXi := hXr.below hBi (Nat.le_refl _)
            obtain ⟨vb, vo, rfl⟩ := hXi.addr (by intro e; have := evs_len es; rw [e] at this; simp at this; omega)
            obtain ⟨c0', c1', c2', c3', c4'⟩ := hXi.ev hx
            have hj1 : (j : Int) < es.length := by omega
            have e1 : IntKind.i64.wrap ((j : Int) + 1) = (j : Int) + 1 := IntWalk.i64_in _ (by omega)
            have hnx : Hid ((es.take (j + 1)).foldl (canStep ((k : Int) + 1)) [0] = canStep ((k : Int) + 1) ys x) := by rw [Hid, List.take_add_one, hx, List.foldl_append, ← hY.out]; rfl
            have hcn := (HEF.out x (List.mem_of_getElem? hx)).2.2.2.1
            have hc0 : ¬ x.c < 0 := by omega
            clear hXi hx hcn
            by_cases hp : x.kind = 1 ∧ x.a = (k : Int) + 1
            · obtain ⟨hp1, hp2⟩ := hp
              have hq1 : (x.kind != 1) = false := by rw [hp1]; rfl
              have hq2 : (x.a != (k : Int) + 1) = false := by rw [hp2]; simp
              have HP1 := Lib.hid hp1
              have HP2 := Lib.hid hp2
              clear hp1 hp2
              have hOe := hO.alloc (.cells #[.int .i64 x.kind, .int .i64 x.a, .int .i64 x.b, .int .i64 x.c, .bool x.torn] 28)
              have hBe : Below wo.heap.size wo (wi.alloc (.cells #[.int .i64 x.kind, .int .i64 x.a, .int .i64 x.b, .int .i64 x.c, .bool x.torn] 28)) := hBi.alloc hzi _
              have hze : (wi.alloc (.cells #[.int .i64 x.kind, .int .i64 x.a, .int .i64 x.b, .int .i64 x.c, .bool x.torn] 28)).heap.size = wi.heap.size + 1 := by simp
              by_cases h6 : 6 ≤ x.c
              · have hOn : OwnI ((wi.alloc (.cells #[.int .i64 x.kind, .int .i64 x.a, .int .i64 x.b, .int .i64 x.c, .bool x.torn] 28)).alloc (.cells #[] 3)) wo.heap.size (.slice (some ⟨wi.heap.size + 1, 0, none⟩) 0 0) [] := by have := OwnI.lit (wi.alloc (.cells #[.int .i64 x.kind, .int .i64 x.a, .int .i64 x.b, .int .i64 x.c, .bool x.torn] 28)) wo.heap.size (by omega); rw [hze] at this; exact this
                have hOl := hOn.alloc (.cells #[.int .i64 x.b] 3)
                have hBl : Below wo.heap.size wo (((wi.alloc (.cells #[.int .i64 x.kind, .int .i64 x.a, .int .i64 x.b, .int .i64 x.c, .bool x.torn] 28)).alloc (.cells #[] 3)).alloc (.cells #[.int .i64 x.b] 3)) := (hBe.alloc (by omega) _).alloc (by simp; omega) _
                clear hO hOe hOn
                go_wp2_with (at_builtin; refine wpList_ints rfl (.tmp 86) (.tmp 89) rfl wo.heap.size (.slice (some ⟨wi.heap.size + 1, 0, none⟩) 0 0) [] [x.b] rfl hOl _ 0 1 1 1 rfl rfl (by simp) (by have h := Row.new ((wi.alloc (.cells #[.int .i64 x.kind, .int .i64 x.a, .int .i64 x.b, .int .i64 x.c, .bool x.torn] 28)).alloc (.cells #[] 3)) #[.int .i64 x.b] 3; simp only [World.size_alloc] at h; exact h) (by omega) (by omega) (by simp; omega) ?_; intro g7 c7 w7 hO7 hB7)
                have hBz : Below wo.heap.size wo w7 := hBl.trans hB7
                clear hB7
                go_wp2
                go_roundw
                (case rel => exact ⟨j + 1, _, by omega, by go_num, hO7, by rw [Hid, hnx.out]; unfold canStep; rw [if_neg (by rintro (h | h | h); exact h HP1.out; exact h HP2.out; exact hc0 h), if_pos h6], by simp <;> omega, hBz⟩)
                (case measure => simp [intOf]; omega)
              · obtain ⟨At, ct, rfl, hRt, _, _⟩ := hO.out
                have hOl := hOe.alloc (.cells #[.int .i64 x.b] 3)
                have hBl : Below wo.heap.size wo ((wi.alloc (.cells #[.int .i64 x.kind, .int .i64 x.a, .int .i64 x.b, .int .i64 x.c, .bool x.torn] 28)).alloc (.cells #[.int .i64 x.b] 3)) := hBe.alloc (by omega) _
                clear hO hOe hRt
                go_wp2_with (at_builtin; refine wpList_ints rfl (.tmp 86) (.tmp 89) rfl wo.heap.size (.slice At ys.length ct) ys [x.b] rfl hOl _ 0 1 (ys.length + 1) 1 rfl rfl (by simp) (by have h := Row.new (wi.alloc (.cells #[.int .i64 x.kind, .int .i64 x.a, .int .i64 x.b, .int .i64 x.c, .bool x.torn] 28)) #[.int .i64 x.b] 3; simp only [World.size_alloc] at h; exact h) (by omega) (by omega) (by simp; omega) ?_; intro g7 c7 w7 hO7 hB7)
                have hBz : Below wo.heap.size wo w7 := hBl.trans hB7
                clear hB7
                go_wp2
                go_roundw
                (case rel => exact ⟨j + 1, _, by omega, by go_num, hO7, by rw [Hid, hnx.out]; unfold canStep; rw [if_neg (by rintro (h | h | h); exact h HP1.out; exact h HP2.out; exact hc0 h), if_neg h6], by simp <;> omega, hBz⟩)
                (case measure => simp [intOf]; omega)
            · have hz : Hid (canStep ((k : Int) + 1) ys x = ys) := by
                unfold Hid canStep
                by_cases h1 : x.kind = 1
                · rw [if_pos (.inr (.inl (fun h => hp ⟨h1, h⟩)))]
                · rw [if_pos (.inl h1)]
              have hOe := hO.alloc (.cells #[.int .i64 x.kind, .int .i64 x.a, .int .i64 x.b, .int .i64 x.c, .bool x.torn] 28)
              have hBe : Below wo.heap.size wo (wi.alloc (.cells #[.int .i64 x.kind, .int .i64 x.a, .int .i64 x.b, .int .i64 x.c, .bool x.torn] 28)) := hBi.alloc hzi _
              by_cases hp1 : x.kind = 1
              · have hq1 : (x.kind != 1) = false := by rw [hp1]; rfl
                have hq2 : (x.a != (k : Int) + 1) = true := by rw [bne_iff_ne]; exact fun h => hp ⟨hp1, h⟩
                clear hp1 hp
                go_wp2
                go_roundw
                (case rel => exact ⟨j + 1, ys, by omega, by go_num, hOe, by rw [Hid, hnx.out, hz.out], by omega, hBe⟩)
                (case measure => simp [intOf]; omega)
              · have hq1 : (x.kind != 1) = true := by rw [bne_iff_ne]; exact hp1
                go_wp2
                go_roundw
                (case rel => exact ⟨j + 1, ys, by omega, by go_num, hOe, by rw [Hid, hnx.out, hz.out], by omega, hBe⟩)
                (case measure => simp [intOf]; omega)
          · have hj2 : (es.length : Int) ≤ j := by omega
            obtain ⟨At, ct, rfl, hRY, _, _⟩ := hO.out
            have HRN : Hid (readV (doRun es) ((k : Int) + 1) ∈ ys) := by rw [Hid, hY.out, List.take_of_length_le (by omega)]; exact run_can (by omega) (by omega) es h60 HEF.out
            have HV := Lib.hid (allV_get (doRun es) (show k < 6 from hlt))
            have hLi := (hL6.below hBr (Nat.le_refl _)).below hBi (Nat.le_refl _)
            generalize readV (doRun es) ((k : Int) + 1) = r at *
            obtain ⟨yb, yo, rfl⟩ : ∃ b o, At = some ⟨b, o, none⟩ := hRY.addr (ints_ne' (fun e => by have := HRN.out; rw [e] at this; cases this))
            clear hO hY
            go_wp2
            go_loopw [13, 14] (fun f i wq => ∃ m : Nat, m ≤ ys.length ∧ i = .int .i64 m ∧ f = .bool ((ys.take m).any fun v => decide (v = r)) ∧ Below wi.heap.size wi wq) (fun _ i _ => ys.length - (intOf i).toNat)
            case atStart => exact ⟨0, by omega, rfl, rfl, by (repeat (first | (with_reducible exact Below.refl _ _) | (with_reducible assumption) | (refine Below.setCell ?_ (by first | omega | exact hB.size | exact hb.size | (have h := hB.size; simp; omega) | (have h := hb.size; simp; omega) | (simp; omega) | simp) _) | (refine Below.alloc ?_ (by first | omega | exact hB.size | exact hb.size | (have h := hB.size; simp; omega) | (have h := hb.size; simp; omega) | (simp; omega) | simp) _) | (refine Below.drew ?_)))⟩
            case round =>
              obtain ⟨m, hm, rfl, rfl, hBq⟩ := hrel
              rename World => wq
              by_cases hlt3 : m < ys.length
              · obtain ⟨y, hy⟩ := get_some hlt3
                obtain ⟨cy, _⟩ := (hRY.below hBq (Nat.le_refl _)).int_ hy
                obtain ⟨cv, _⟩ := (hLi.below hBq (Nat.le_refl _)).int_ HV.out
                have hm1 : (m : Int) < ys.length := by omega
                have e1 : IntKind.i64.wrap ((m : Int) + 1) = (m : Int) + 1 := IntWalk.i64_in _ (by omega)
                have e2 : IntKind.i64.wrap ((k : Int) + 1 - 1) = (k : Int) := by rw [IntWalk.i64_in _ (by omega)]; omega
                have hnx : Hid ((ys.take (m + 1)).any (fun v => decide (v = r)) = ((ys.take m).any (fun v => decide (v = r)) || decide (y = r))) := by rw [Hid, List.take_add_one, hy, List.any_append]; simp
                clear hy
                generalize (ys.take m).any (fun v => decide (v = r)) = F at *
                cases F with
                | true =>
                  go_wp2
                  go_quiet (fail)
                  have hBn := below_drewN hBq nq
                  go_wp2
                  go_roundw
                  (case rel => exact ⟨m + 1, by omega, by go_num, by rw [hnx.out, Bool.true_or], hBn⟩)
                  (case measure => simp [intOf]; omega)
                | false =>
                  go_wp2
                  go_quiet (fail)
                  have hBn := below_drewN hBq nq
                  go_wp2
                  go_roundw
                  (case rel => exact ⟨m + 1, by omega, by go_num, by rw [hnx.out, Bool.false_or]; first | rfl | (by_cases h : y = r <;> simp [h]), hBn⟩)
                  (case measure => simp [intOf]; omega)
              · have hm2 : (ys.length : Int) ≤ m := by omega
                have hfd : (ys.take m).any (fun v => decide (v = r)) = true := by rw [List.take_of_length_le (by omega)]; exact List.any_eq_true.2 ⟨r, HRN.out, by simp⟩
                rw [hfd]
                have hBw := hBr.trans ((hBi.trans (hBq.mono hBi.size)).mono hBr.size)
                clear hfd
                go_wp2
                go_roundw
                (case rel => exact ⟨k + 1, by omega, by go_num, hBw⟩)
                (case measure => simp [intOf]; omega)
      · have hk1 : ¬ (k : Int) + 1 ≤ 6 := by omega
        have hHr := hHbx.below hBr (Nat.le_refl _)
        replace x0 := hHr.x0
        replace x1 := hHr.x1
        go_wp2_with fail
        refine (impl_StoreOk_ok HOK.out A2 D2 c2 d2 _ hHr.fl hHr.dk).mono ?_
        rintro e w9 ⟨rfl, hb⟩
        have hBf := hB6.trans ((hBr.trans (hb.mono hBr.size)).mono hB6.size)
        go_wp2
        go_ret
        exact ⟨rfl, hBf⟩
  · have h61 : 60 < es.length := by omega
    go_wp2_with fail
    refine (impl_PlayRun_no h61 (by omega) V vc _ hX).mono ?_
    rintro e w2 ⟨A2, c2, D2, d2, rfl, hb⟩
    have hs2 := hb.size
    have hB2 := hB1.trans (hb.mono hB1.size)
    replace hX := hX.below hb (Nat.le_refl _)
    clear hb
    have hHbx := Held.no w2 A2 D2 c2 d2
    replace hX := hX.below ((Below.refl w2.heap.size w2).alloc (Nat.le_refl _) (.cells #[.slice A2 0 c2, .slice D2 0 d2] 26)) (Nat.le_refl _)
    have hBW2 := hB2.alloc hB2.size (.cells #[.slice A2 0 c2, .slice D2 0 d2] 26)
    have hzW2 : (w2.alloc (.cells #[.slice A2 0 c2, .slice D2 0 d2] 26)).heap.size = w2.heap.size + 1 := by simp
    obtain ⟨W2, hEW2⟩ : ∃ W, w2.alloc (.cells #[.slice A2 0 c2, .slice D2 0 d2] 26) = W := ⟨_, rfl⟩
    obtain ⟨bx, hEbx⟩ : ∃ b, w2.heap.size = b := ⟨_, rfl⟩
    rw [hEW2] at hHbx hBW2 hzW2 hX
    rw [hEbx] at hHbx hzW2
    go_wp2_with fail
    refine (spec_PlayRun_no h61 (by omega) V vc _ hX).mono ?_
    rintro e w3 ⟨A3, c3, D3, d3, rfl, hb⟩
    have hs3 := hb.size
    have hB3 := hBW2.trans (hb.mono hBW2.size)
    replace hX := hX.below hb (Nat.le_refl _)
    replace hHbx := hHbx.below hb (Nat.le_refl _)
    clear hb
    have hHby' := Held.no w3 A3 D3 c3 d3
    replace hX := hX.below ((Below.refl w3.heap.size w3).alloc (Nat.le_refl _) (.cells #[.slice A3 0 c3, .slice D3 0 d3] 26)) (Nat.le_refl _)
    replace hHbx := hHbx.below ((Below.refl w3.heap.size w3).alloc (Nat.le_refl _) (.cells #[.slice A3 0 c3, .slice D3 0 d3] 26)) (Nat.le_refl _)
    have hBW3 := hB3.alloc hB3.size (.cells #[.slice A3 0 c3, .slice D3 0 d3] 26)
    have hzW3 : (w3.alloc (.cells #[.slice A3 0 c3, .slice D3 0 d3] 26)).heap.size = w3.heap.size + 1 := by simp
    obtain ⟨W3, hEW3⟩ : ∃ W, w3.alloc (.cells #[.slice A3 0 c3, .slice D3 0 d3] 26) = W := ⟨_, rfl⟩
    obtain ⟨by', hEby'⟩ : ∃ b, w3.heap.size = b := ⟨_, rfl⟩
    rw [hEW3] at hHby' hBW3 hzW3 hX hHbx
    rw [hEby'] at hHby' hzW3
    have x0 := hHbx.x0
    have x1 := hHbx.x1
    have y0 := hHby'.x0
    have y1 := hHby'.x1
    go_wp2_with fail
    refine (laws_lqStore_no A2 D2 A3 D3 c2 d2 c3 d3 _).mono ?_
    rintro e w4 ⟨rfl, hb⟩
    have hB4 := hBW3.trans (hb.mono hBW3.size)
    replace hX := hX.below hb (Nat.le_refl _)
    replace hHbx := hHbx.below hb (Nat.le_refl _)
    replace hHby' := hHby'.below hb (Nat.le_refl _)
    replace x0 := hHbx.x0
    replace x1 := hHbx.x1
    replace y0 := hHby'.x0
    replace y1 := hHby'.x1
    clear hb hBW3 hBW2 hB3 hB2 hB1
    go_wp2_with fail
    refine (laws_lqStore_no A2 D2 A3 D3 c2 d2 c3 d3 _).mono ?_
    rintro e w5 ⟨rfl, hb⟩
    have hB5 := hB4.trans (hb.mono hB4.size)
    go_wp2
    go_ret
    exact ⟨rfl, hB5⟩
end Go.Proofs.Ytbekihiiildgmaa
