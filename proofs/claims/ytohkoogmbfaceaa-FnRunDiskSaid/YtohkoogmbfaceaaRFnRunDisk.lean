/- Walks: laws over plays: FnRunDisk. -/
import Derived.Test.YtohkoogmbfaceaaZ7
namespace Go.Proofs.Ytohkoogmbfaceaa
set_option linter.unusedVariables false
set_option linter.unusedSimpArgs false
open Go.RowKit Go.Maps
set_option maxHeartbeats 400000
set_option maxHeartbeats 8000000 in
set_option maxRecDepth 100000 in
theorem law_FnRunDisk {w : World} (A : Option Addr) (bs : List Nat) (c : Nat) (hc : Code w A bs c) :
    Calls Try.prog 4 #[.slice A bs.length c] w fun e w' => e = .returned (.bool true) ∧ Below w.heap.size w w' := by
  by_cases hlen : (1048576 : Int) < bs.length
  · go_enter Try.func4, Try.ntmps4
    go_wp2
    go_ret
    exact ⟨rfl, Below.refl _ _⟩
  go_enter Try.func4, Try.ntmps4
  go_wp2_with fail
  refine (spec_DrawPlayRun A bs c _ hc).mono ?_
  rintro e w1 ⟨v, es, rfl, hE, hel, hef, hB1⟩
  obtain ⟨V, vc, rfl, hX, _, _⟩ := hE.out
  have hs1 := hB1.size
  have HEF := Lib.hid hef
  clear hE hef
  by_cases h60 : es.length ≤ 60
  · have HOK := Lib.hid (run_run es).ok
    go_wp2_with fail
    refine (impl_PlayRun_ok h60 V vc _ hX).mono ?_
    rintro e w2 ⟨A2, c2, D2, d2, rfl, hF2, hD2, _, hb⟩
    have hs2 := hb.size
    have hB2 := hB1.trans (hb.mono hB1.size)
    replace hX := hX.below hb (Nat.le_refl _)
    clear hb
    have hHbx := Held.ok HOK.out c2 d2 hF2.fl hD2
    replace hX := hX.below ((Below.refl w2.heap.size w2).alloc (Nat.le_refl _) (.cells #[.slice A2 4 c2, .slice D2 6 d2] 28)) (Nat.le_refl _)
    have hBW2 := hB2.alloc hB2.size (.cells #[.slice A2 4 c2, .slice D2 6 d2] 28)
    have hzW2 : (w2.alloc (.cells #[.slice A2 4 c2, .slice D2 6 d2] 28)).heap.size = w2.heap.size + 1 := by simp
    obtain ⟨W2, hEW2⟩ : ∃ W, w2.alloc (.cells #[.slice A2 4 c2, .slice D2 6 d2] 28) = W := ⟨_, rfl⟩
    obtain ⟨bx, hEbx⟩ : ∃ b, w2.heap.size = b := ⟨_, rfl⟩
    rw [hEW2] at hHbx hBW2 hzW2 hX
    rw [hEbx] at hHbx hzW2
    clear hF2 hD2
    go_wp2_with fail
    refine (spec_PlayRun_ok h60 V vc _ hX).mono ?_
    rintro e w3 ⟨A3, c3, D3, d3, rfl, hF3, hD3, _, hb⟩
    have hs3 := hb.size
    have hB3 := hBW2.trans (hb.mono hBW2.size)
    replace hX := hX.below hb (Nat.le_refl _)
    replace hHbx := hHbx.below hb (Nat.le_refl _)
    clear hb
    have hHby' := Held.ok HOK.out c3 d3 hF3.fl hD3
    replace hX := hX.below ((Below.refl w3.heap.size w3).alloc (Nat.le_refl _) (.cells #[.slice A3 4 c3, .slice D3 6 d3] 28)) (Nat.le_refl _)
    replace hHbx := hHbx.below ((Below.refl w3.heap.size w3).alloc (Nat.le_refl _) (.cells #[.slice A3 4 c3, .slice D3 6 d3] 28)) (Nat.le_refl _)
    have hBW3 := hB3.alloc hB3.size (.cells #[.slice A3 4 c3, .slice D3 6 d3] 28)
    have hzW3 : (w3.alloc (.cells #[.slice A3 4 c3, .slice D3 6 d3] 28)).heap.size = w3.heap.size + 1 := by simp
    obtain ⟨W3, hEW3⟩ : ∃ W, w3.alloc (.cells #[.slice A3 4 c3, .slice D3 6 d3] 28) = W := ⟨_, rfl⟩
    obtain ⟨by', hEby'⟩ : ∃ b, w3.heap.size = b := ⟨_, rfl⟩
    rw [hEW3] at hHby' hBW3 hzW3 hX hHbx
    rw [hEby'] at hHby' hzW3
    clear hF3 hD3
    have x0 := hHbx.x0
    have x1 := hHbx.x1
    have y0 := hHby'.x0
    have y1 := hHby'.x1
    go_wp2_with fail
    refine (laws_lqStore_ok HOK.out A2 D2 A3 D3 c2 d2 c3 d3 _ hHbx.fl hHbx.dk hHby'.fl hHby'.dk).mono ?_
    rintro e w4 ⟨rfl, hb⟩
    have hB4 := hBW3.trans (hb.mono hBW3.size)
    replace hX := hX.below hb (Nat.le_refl _)
    replace hHbx := hHbx.below hb (Nat.le_refl _)
    replace x0 := hHbx.x0
    replace x1 := hHbx.x1
    clear hb hHby' y0 y1 hBW3 hBW2 hB3 hB2 hB1
    go_wp2
    go_loopw [8] (fun q wr => ∃ k : Nat, k ≤ 6 ∧ q = .int .i64 ((k : Int) + 1) ∧ Below w4.heap.size w4 wr) (fun q _ => 7 - (intOf q).toNat)
    case atStart => exact ⟨0, by omega, rfl, Below.refl _ _⟩
    case round =>
      obtain ⟨k, hk, rfl, hBr⟩ := hrel
      rename World => wo
      have hzo := hBr.size
      by_cases hlt : k < 6
      · have hk1 : (k : Int) + 1 ≤ 6 := by omega
        have e1 : IntKind.i64.wrap ((k : Int) + 1 + 1) = (k : Int) + 1 + 1 := IntWalk.i64_in _ (by omega)
        have e2 : IntKind.i64.wrap ((k : Int) + 1 - 1) = (k : Int) := by rw [IntWalk.i64_in _ (by omega)]; omega
        have hHo := hHbx.below hBr (Nat.le_refl _)
        replace x0 := hHo.x0
        replace x1 := hHo.x1
        have hdg := dk_get HOK.out.len (a := (k : Int) + 1) (by omega) (by omega)
        rw [show ((k : Int) + 1 - 1).toNat = k by omega] at hdg
        have hRD := Lib.hid (run_disk (es := es) (a := (k : Int) + 1) (by omega) (by omega)).2
        have hdk := hHo.dk
        obtain ⟨db, dO, rfl⟩ := hdk.addr (ints_ne' (by intro e; rw [e] at hdg; simp at hdg))
        obtain ⟨cd, _⟩ := hdk.int_ hdg
        have HDG := Lib.hid hdg
        clear hdg hdk
        generalize dk (doRun es) ((k : Int) + 1) = v at *
        go_wp2
        go_loopw [9, 10] (fun f i wi => ∃ j : Nat, j ≤ es.length ∧ i = .int .i64 j ∧ f = .bool ((v == 0) || (es.take j).any (isPutV ((k : Int) + 1) v)) ∧ Below wo.heap.size wo wi) (fun _ i _ => es.length - (intOf i).toNat)
        case atStart => exact ⟨0, by omega, rfl, by simp, Below.refl _ _⟩
        case round =>
          obtain ⟨j, hj, rfl, rfl, hBi⟩ := hrel
          rename World => wi
          have hBw := hBr.trans (hBi.mono hzo)
          by_cases hlt2 : j < es.length
          · obtain ⟨x, hx⟩ := get_some hlt2
            have hXi := hX.below hBw (Nat.le_refl _)
            obtain ⟨vb, vo, rfl⟩ := hXi.addr (by intro e; have := evs_len es; rw [e] at this; simp at this; omega)
            obtain ⟨c0', c1', c2', c3', c4'⟩ := hXi.ev hx
            have hHi := hHbx.below hBw (Nat.le_refl _)
            replace x0 := hHi.x0
            replace x1 := hHi.x1
            obtain ⟨cd', _⟩ := hHi.dk.int_ HDG.out
            have hj1 : (j : Int) < es.length := by omega
            have e3 : IntKind.i64.wrap ((j : Int) + 1) = (j : Int) + 1 := IntWalk.i64_in _ (by omega)
            have hnx : Hid (((v == 0) || (es.take (j + 1)).any (isPutV ((k : Int) + 1) v)) = (((v == 0) || (es.take j).any (isPutV ((k : Int) + 1) v)) || isPutV ((k : Int) + 1) v x)) := by rw [Hid, List.take_add_one, hx, List.any_append]; simp [Bool.or_assoc]
            clear hx hXi cd
            generalize ((v == 0) || (es.take j).any (isPutV ((k : Int) + 1) v)) = F at *
            cases F with
            | true =>
              go_wp2
              go_quiet (fail)
              have hBn := below_drewN hBi nq
              go_wp2
              go_roundw
              (case rel => exact ⟨j + 1, by omega, by go_num, by rw [hnx.out]; rw [Bool.true_or], hBn⟩)
              (case measure => simp [intOf]; omega)
            | false =>
              by_cases hk2 : x.kind = 1
              · have q1 : (x.kind == 1) = true := by rw [hk2]; rfl
                by_cases ha : x.a = (k : Int) + 1
                · have q2 : (x.a == (k : Int) + 1) = true := by rw [ha]; simp
                  by_cases hv : x.b = v
                  · have q3 : (x.b == v) = true := by rw [hv]; simp
                    have HIP := Lib.hid (isPutV_iff.2 ⟨hk2, ha, hv⟩)
                    clear hk2 ha hv
                    go_wp2
                    go_quiet (fail)
                    have hBn := below_drewN hBi nq
                    go_wp2
                    go_roundw
                    (case rel => exact ⟨j + 1, by omega, by go_num, by rw [hnx.out]; rw [HIP.out]; rfl, hBn⟩)
                    (case measure => simp [intOf]; omega)
                  · have q3 : (x.b == v) = false := by simpa using hv
                    have HIP : Hid (isPutV ((k : Int) + 1) v x = false) := by rw [Hid, ← Bool.not_eq_true, isPutV_iff]; exact fun h => hv h.2.2
                    clear hk2 ha hv
                    go_wp2
                    go_quiet (fail)
                    have hBn := below_drewN hBi nq
                    go_wp2
                    go_roundw
                    (case rel => exact ⟨j + 1, by omega, by go_num, by rw [hnx.out]; rw [HIP.out]; rfl, hBn⟩)
                    (case measure => simp [intOf]; omega)
                · have q2 : (x.a == (k : Int) + 1) = false := by simpa using ha
                  have HIP : Hid (isPutV ((k : Int) + 1) v x = false) := by rw [Hid, ← Bool.not_eq_true, isPutV_iff]; exact fun h => ha h.2.1
                  clear hk2 ha
                  go_wp2
                  go_quiet (fail)
                  have hBn := below_drewN hBi nq
                  go_wp2
                  go_roundw
                  (case rel => exact ⟨j + 1, by omega, by go_num, by rw [hnx.out]; rw [HIP.out]; rfl, hBn⟩)
                  (case measure => simp [intOf]; omega)
              · have q1 : (x.kind == 1) = false := by simpa using hk2
                have HIP : Hid (isPutV ((k : Int) + 1) v x = false) := by rw [Hid, ← Bool.not_eq_true, isPutV_iff]; exact fun h => hk2 h.1
                clear hk2
                go_wp2
                go_quiet (fail)
                have hBn := below_drewN hBi nq
                go_wp2
                go_roundw
                (case rel => exact ⟨j + 1, by omega, by go_num, by rw [hnx.out]; rw [HIP.out]; rfl, hBn⟩)
                (case measure => simp [intOf]; omega)
          · have hj2 : ¬ (j : Int) < es.length := by omega
            have hT : ((v == 0) || (es.take j).any (isPutV ((k : Int) + 1) v)) = true := by
              rw [List.take_of_length_le (show es.length ≤ j by omega)]
              rcases hRD.out with h | h
              · rw [h]; rfl
              · rw [h, Bool.or_true]
            rw [hT]
            clear hT
            go_wp2
            go_roundw
            (case rel => exact ⟨k + 1, by omega, by go_num, hBw⟩)
            (case measure => simp [intOf]; omega)
      · have hk1 : ¬ (k : Int) + 1 ≤ 6 := by omega
        have hBf := hB4.trans (hBr.mono hB4.size)
        go_wp2
        go_ret
        exact ⟨rfl, hBf⟩
  · have h61 : 60 < es.length := by omega
    go_wp2_with fail
    refine (impl_PlayRun_no h61 (by omega) V vc _ hX).mono ?_
    rintro e w2 ⟨A2, c2, D2, d2, rfl, hb⟩
    have hs2 := hb.size
    have hB2 := hB1.trans (hb.mono hB1.size)
    replace hX := hX.below hb (Nat.le_refl _)
    clear hb
    have hHbx := Held.no w2 A2 D2 c2 d2
    replace hX := hX.below ((Below.refl w2.heap.size w2).alloc (Nat.le_refl _) (.cells #[.slice A2 0 c2, .slice D2 0 d2] 28)) (Nat.le_refl _)
    have hBW2 := hB2.alloc hB2.size (.cells #[.slice A2 0 c2, .slice D2 0 d2] 28)
    have hzW2 : (w2.alloc (.cells #[.slice A2 0 c2, .slice D2 0 d2] 28)).heap.size = w2.heap.size + 1 := by simp
    obtain ⟨W2, hEW2⟩ : ∃ W, w2.alloc (.cells #[.slice A2 0 c2, .slice D2 0 d2] 28) = W := ⟨_, rfl⟩
    obtain ⟨bx, hEbx⟩ : ∃ b, w2.heap.size = b := ⟨_, rfl⟩
    rw [hEW2] at hHbx hBW2 hzW2 hX
    rw [hEbx] at hHbx hzW2
    go_wp2_with fail
    refine (spec_PlayRun_no h61 (by omega) V vc _ hX).mono ?_
    rintro e w3 ⟨A3, c3, D3, d3, rfl, hb⟩
    have hs3 := hb.size
    have hB3 := hBW2.trans (hb.mono hBW2.size)
    replace hX := hX.below hb (Nat.le_refl _)
    replace hHbx := hHbx.below hb (Nat.le_refl _)
    clear hb
    have hHby' := Held.no w3 A3 D3 c3 d3
    replace hX := hX.below ((Below.refl w3.heap.size w3).alloc (Nat.le_refl _) (.cells #[.slice A3 0 c3, .slice D3 0 d3] 28)) (Nat.le_refl _)
    replace hHbx := hHbx.below ((Below.refl w3.heap.size w3).alloc (Nat.le_refl _) (.cells #[.slice A3 0 c3, .slice D3 0 d3] 28)) (Nat.le_refl _)
    have hBW3 := hB3.alloc hB3.size (.cells #[.slice A3 0 c3, .slice D3 0 d3] 28)
    have hzW3 : (w3.alloc (.cells #[.slice A3 0 c3, .slice D3 0 d3] 28)).heap.size = w3.heap.size + 1 := by simp
    obtain ⟨W3, hEW3⟩ : ∃ W, w3.alloc (.cells #[.slice A3 0 c3, .slice D3 0 d3] 28) = W := ⟨_, rfl⟩
    obtain ⟨by', hEby'⟩ : ∃ b, w3.heap.size = b := ⟨_, rfl⟩
    rw [hEW3] at hHby' hBW3 hzW3 hX hHbx
    rw [hEby'] at hHby' hzW3
    have x0 := hHbx.x0
    have x1 := hHbx.x1
    have y0 := hHby'.x0
    have y1 := hHby'.x1
    go_wp2_with fail
    refine (laws_lqStore_no A2 D2 A3 D3 c2 d2 c3 d3 _).mono ?_
    rintro e w4 ⟨rfl, hb⟩
    have hB4 := hBW3.trans (hb.mono hBW3.size)
    replace hX := hX.below hb (Nat.le_refl _)
    replace hHbx := hHbx.below hb (Nat.le_refl _)
    replace hHby' := hHby'.below hb (Nat.le_refl _)
    replace x0 := hHbx.x0
    replace x1 := hHbx.x1
    replace y0 := hHby'.x0
    replace y1 := hHby'.x1
    clear hb hBW3 hBW2 hB3 hB2 hB1
    go_wp2_with fail
    refine (laws_lqStore_no A2 D2 A3 D3 c2 d2 c3 d3 _).mono ?_
    rintro e w5 ⟨rfl, hb⟩
    have hB5 := hB4.trans (hb.mono hB4.size)
    go_wp2
    go_ret
    exact ⟨rfl, hB5⟩
end Go.Proofs.Ytohkoogmbfaceaa
