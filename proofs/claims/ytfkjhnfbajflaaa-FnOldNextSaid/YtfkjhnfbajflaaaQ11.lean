/- Walks: FnOrderStep, FnOldNext. -/
import Derived.Test.YtfkjhnfbajflaaaE8
import Derived.Test.YtfkjhnfbajflaaaH12
import Derived.Test.YtfkjhnfbajflaaaH13
import Derived.Test.YtfkjhnfbajflaaaG20
import Derived.Test.YtfkjhnfbajflaaaH3
namespace Go.Proofs.Ytfkjhnfbajflaaa
set_option linter.unusedVariables false
set_option linter.unusedSimpArgs false
open Go.RowKit Go.Maps
set_option maxHeartbeats 400000
set_option maxHeartbeats 4000000 in
set_option maxRecDepth 100000 in
theorem law_FnOrderStep {w : World} (A : Option Addr) (bs : List Nat) (c : Nat) (hc : Code w A bs c) (A' : Option Addr) (bs' : List Nat) (c' : Nat) (hc' : Code w A' bs' c') :
    Calls Try.prog 5 #[.slice A bs.length c, .slice A' bs'.length c'] w fun e w' => e = .returned (.bool true) ∧ Below w.heap.size w w' := by
  by_cases hlen : (1048576 : Int) < bs.length
  · go_enter Try.func5, Try.ntmps5
    go_wp2
    go_ret
    exact ⟨rfl, Below.refl _ _⟩
  by_cases hlen' : (1048576 : Int) < bs'.length
  · go_enter Try.func5, Try.ntmps5
    go_wp2
    go_ret
    exact ⟨rfl, Below.refl _ _⟩
  go_enter Try.func5, Try.ntmps5
  go_wp2_with fail
  refine (spec_DrawFindOrder A bs c _ hc).mono ?_
  rintro e w1 ⟨g, o, d, f, rfl, hf, hO1, hb1⟩
  have hs1 := hb1.size
  have hF := Lib.hid hf
  have hB1 := hb1
  clear hf hb1
  go_wp2_with fail
  refine (impl_FindOrder f _ _ d _ rfl hO1.fl).mono ?_
  rintro e w2 ⟨rfl, hb⟩
  have hs2 := hb.size
  have hO2 := hO1.below hb (Nat.le_refl _)
  have hB2 := hB1.trans (hb.mono (by omega))
  clear hO1 hb hB1
  go_wp2_with fail
  refine (spec_FindOrder f _ _ d _ rfl (small_len hF.out) hO2.fl).mono ?_
  rw [← findOrder_eq]
  rintro e w3 ⟨rfl, hb⟩
  have hs3 := hb.size
  have hO3 := hO2.below hb (Nat.le_refl _)
  have hB3 := hB2.trans (hb.mono (by omega))
  clear hO2 hb hB2
  by_cases hord : findOrderI f = true
  · have HORD := Lib.hid hord
    have hok := order_ok hord
    have hfo : Hid (findOpen f = openI f) := by unfold Hid findOpen; rw [if_pos hok, openI_eq (fun b hb => (flashOk_shape hok b hb).1)]
    have hfn : Hid (findNext f = next f) := findNext_eq hok
    obtain ⟨m, hm, hm4⟩ := findOld_lt hok
    have HM := Lib.hid hm
    have hW := Lib.hid (fun t => order_wipe hord hm4 t)
    rw [hord]
    clear hord hok hm
    generalize ht : ((bs'.length : Int) % 2 == 0) = t at *
    go_wp2_with fail
    refine (impl_FindOpen f _ _ d _ rfl hO3.fl).mono ?_
    rw [hfo.out]
    rintro e w4 ⟨rfl, hb⟩
    have hs4 := hb.size
    have hO4 := hO3.below hb (Nat.le_refl _)
    have hB4 := hB3.trans (hb.mono (by omega))
    clear hO3 hb hB3
    by_cases hop : (openI f).2 = true
    · obtain ⟨p, hp⟩ : ∃ p : Int, (openI f).1 = p := ⟨_, rfl⟩
      have hWr := Lib.hid (fun (a : Int) ha => order_write HORD.out (m := p) (Prod.ext hp hop) (a := a) ha (k := 2) (v := 0) (.inr rfl) (by omega) t)
      rw [hop, hp]
      clear hop hp
      obtain ⟨a6, ha6⟩ : ∃ a6 : Int, (bs'.length : Int) % 6 = a6 := ⟨_, rfl⟩
      have hb6 : 0 ≤ a6 ∧ a6 < 6 := by omega
      obtain ⟨h60, h66⟩ := hb6
      have e1 : IntKind.i64.wrap (1 + a6) = 1 + a6 := IntWalk.i64_in _ (by omega)
      go_wp2_with fail
      refine (impl_FindNext f _ _ d _ rfl hO4.fl).mono ?_
      rw [hfn.out]
      rintro e w5 ⟨rfl, hb⟩
      have hs5 := hb.size
      have hO5 := hO4.below hb (Nat.le_refl _)
      have hB5 := hB4.trans (hb.mono (by omega))
      clear hO4 hb hB4
      go_wp2_with fail
      refine (impl_FlashWrite f p ⟨2, next f, 1 + a6, 0⟩ t _ _ d _ rfl hO5.fl).mono ?_
      have hk := Lib.hid (hWr.out (1 + a6) (by omega))
      generalize flashWrite f p ⟨2, next f, 1 + a6, 0⟩ t = R at *
      obtain ⟨x, fine⟩ := R
      rintro e w6 ⟨A6, c6, rfl, _, hO6, hb⟩
      dsimp only at hO6 ⊢
      have hs6 := hb.size
      have hB6 := hB5.trans (hb.mono (by omega))
      clear hb hB5
      cases fine with
      | false =>
        go_wp2
        go_ret
        exact ⟨rfl, hB6⟩
      | true =>
        have hx : Hid (findOrderI x = true) := by
          rcases hk.out with h | h
          · cases h
          · exact h
        go_wp2_with fail
        refine (impl_FindOrder x _ _ c6 _ rfl hO6.fl).mono ?_
        rw [hx.out]
        rintro e w7 ⟨rfl, hb⟩
        have hBf := hB6.trans (hb.mono (by omega))
        go_wp2
        go_ret
        exact ⟨rfl, hBf⟩
    · rw [show (openI f).2 = false from by simpa using hop]
      clear hop
      go_wp2_with fail
      refine (impl_FindOld f _ _ d _ rfl hO4.fl).mono ?_
      rw [HM.out]
      rintro e w5 ⟨rfl, hb⟩
      have hs5 := hb.size
      have hO5 := hO4.below hb (Nat.le_refl _)
      have hB5 := hB4.trans (hb.mono (by omega))
      clear hO4 hb hB4
      go_wp2_with fail
      refine (impl_FlashWipe f m t _ d _ hO5.fl).mono ?_
      have hk := Lib.hid (hW.out t)
      generalize flashWipe f m t = R at *
      obtain ⟨x, fine⟩ := R
      rintro e w6 ⟨A6, c6, rfl, _, hO6, hb⟩
      dsimp only at hO6 ⊢
      have hs6 := hb.size
      have hB6 := hB5.trans (hb.mono (by omega))
      clear hb hB5
      cases fine with
      | false =>
        go_wp2
        go_ret
        exact ⟨rfl, hB6⟩
      | true =>
        have hx : Hid (findOrderI x = true) := by
          rcases hk.out with h | h
          · cases h
          · exact h
        go_wp2_with fail
        refine (impl_FindOrder x _ _ c6 _ rfl hO6.fl).mono ?_
        rw [hx.out]
        rintro e w7 ⟨rfl, hb⟩
        have hBf := hB6.trans (hb.mono (by omega))
        go_wp2
        go_ret
        exact ⟨rfl, hBf⟩
  · have hno : Hid (findOrderI f = false) := by unfold Hid; simpa using hord
    rw [hno.out]
    clear hord
    go_wp2_with fail
    refine (spec_FindOrder f _ _ d _ rfl (small_len hF.out) hO3.fl).mono ?_
    rw [← findOrder_eq, hno.out]
    rintro e w4 ⟨rfl, hb⟩
    have hBf := hB3.trans (hb.mono (by omega))
    go_wp2
    go_ret
    exact ⟨rfl, hBf⟩
set_option maxHeartbeats 4000000 in
set_option maxRecDepth 100000 in
theorem law_FnOldNext {w : World} (A : Option Addr) (bs : List Nat) (c : Nat) (hc : Code w A bs c) :
    Calls Try.prog 4 #[.slice A bs.length c] w fun e w' => e = .returned (.bool true) ∧ Below w.heap.size w w' := by
  by_cases hlen : (1048576 : Int) < bs.length
  · go_enter Try.func4, Try.ntmps4
    go_wp2
    go_ret
    exact ⟨rfl, Below.refl _ _⟩
  go_enter Try.func4, Try.ntmps4
  go_wp2_with fail
  refine (spec_DrawFindOrder A bs c _ hc).mono ?_
  rintro e w1 ⟨g, o, d, f, rfl, hf, hO1, hb1⟩
  have hs1 := hb1.size
  have hF := Lib.hid hf
  have hB1 := hb1
  clear hf hb1
  go_wp2_with fail
  refine (impl_FindOrder f _ _ d _ rfl hO1.fl).mono ?_
  rintro e w2 ⟨rfl, hb⟩
  have hs2 := hb.size
  have hO2 := hO1.below hb (Nat.le_refl _)
  have hB2 := hB1.trans (hb.mono (by omega))
  clear hO1 hb hB1
  go_wp2_with fail
  refine (spec_FindOrder f _ _ d _ rfl (small_len hF.out) hO2.fl).mono ?_
  rw [← findOrder_eq]
  rintro e w3 ⟨rfl, hb⟩
  have hs3 := hb.size
  have hO3 := hO2.below hb (Nat.le_refl _)
  have hB3 := hB2.trans (hb.mono (by omega))
  clear hO2 hb hB2
  by_cases hord : findOrderI f = true
  · have HORD := Lib.hid hord
    have hok := order_ok hord
    have HOK := Lib.hid hok
    have HSH := Lib.hid (fun b hb => (flashOk_shape hok b hb).1)
    have hfo : Hid (findOpen f = openI f) := by unfold Hid findOpen; rw [if_pos hok, openI_eq (fun b hb => (flashOk_shape hok b hb).1)]
    have hfn : Hid (findNext f = next f) := findNext_eq hok
    obtain ⟨m, hm, hm4⟩ := findOld_lt hok
    have HM := Lib.hid hm
    have hfw := Lib.hid (flashWipe_eq hok hm4 false)
    have hn1 : 1 ≤ next f := by have := le_topSeq0 (f := f) (n := 0); unfold next topSeq; omega
    rw [hord]
    clear hord hok hm
    go_wp2_with fail
    refine (impl_FindOpen f _ _ d _ rfl hO3.fl).mono ?_
    rw [hfo.out]
    rintro e w4 ⟨rfl, hb⟩
    have hs4 := hb.size
    have hO4 := hO3.below hb (Nat.le_refl _)
    have hB4 := hB3.trans (hb.mono (by omega))
    clear hO3 hb hB3
    go_wp2_with fail
    refine (impl_FindNext f _ _ d _ rfl hO4.fl).mono ?_
    rw [hfn.out]
    rintro e w5 ⟨rfl, hb⟩
    have hs5 := hb.size
    have hO5 := hO4.below hb (Nat.le_refl _)
    have hB5 := hB4.trans (hb.mono (by omega))
    clear hO4 hb hB4
    go_wp2_with fail
    refine (impl_FindOld f _ _ d _ rfl hO5.fl).mono ?_
    rw [HM.out]
    rintro e w6 ⟨rfl, hb⟩
    have hs6 := hb.size
    have hO6 := hO5.below hb (Nat.le_refl _)
    have hB6 := hB5.trans (hb.mono (by omega))
    clear hO5 hb hB5
    obtain ⟨n, hn⟩ : ∃ n : Int, next f = n := ⟨_, rfl⟩
    have HN := Lib.hid hn
    rw [hn] at hn1 ⊢
    clear hn
    by_cases hop : (openI f).2 = true
    · rw [hop]
      go_wp2
      go_ret
      exact ⟨rfl, hB6⟩
    have hop' : (openI f).2 = false := by simpa using hop
    have H0 := Lib.hid (open_false HSH.out hop')
    rw [hop']
    clear hop hop'
    by_cases hbig : 596 < n
    · go_wp2
      go_ret
      exact ⟨rfl, hB6⟩
    by_cases hone : n = 1
    · subst hone
      go_wp2
      go_ret
      exact ⟨rfl, hB6⟩
    have hone' : (n == 1) = false := by rw [beq_eq_false_iff_ne]; exact hone
    clear hone
    by_cases hw : (f.getD m zbk).worn = 200
    · have hh := hfw.out
      rw [if_pos hw] at hh
      replace hfw := Lib.hid hh
      clear hh hw
      go_wp2_with fail
      refine (impl_FlashWipe f m false _ d _ hO6.fl).mono ?_
      rw [hfw.out]
      rintro e w7 ⟨A7, c7, rfl, _, hO7, hb⟩
      dsimp only at hO7 ⊢
      have hs7 := hb.size
      have hB7 := hB6.trans (hb.mono (by omega))
      clear hb hB6
      go_wp2
      go_loopw [9, 10, 11] (fun x fn i wr => fn = .bool false ∧ wr = w7) (fun _ _ _ _ => 0)
      case atStart => exact ⟨rfl, rfl⟩
      case round =>
        obtain ⟨rfl, rfl⟩ := hrel
        go_wp2
        go_ret
        exact ⟨rfl, hB7⟩
    · have hh := hfw.out
      rw [if_neg hw] at hh
      replace hfw := Lib.hid hh
      have hOld := Lib.hid (old_begin HORD.out H0.out hm4 hw)
      rw [HN.out] at hOld
      clear hh hw
      go_wp2_with fail
      refine (impl_FlashWipe f m false _ d _ hO6.fl).mono ?_
      rw [hfw.out]
      rintro e w7 ⟨A7, c7, rfl, _, hO7, hb⟩
      dsimp only at hO7 ⊢
      have hs7 := hb.size
      have hB7 := hB6.trans (hb.mono (by omega))
      have hF7 := hO7.fl
      clear hb hB6 hO7 hO6
      go_wp2
      go_loopw [9, 10, 11] (fun x fn i wr => ∃ (k : Nat) (y : List Bk) (A : Option Addr) (c : Nat), k ≤ 4 ∧ x = .slice A y.length c ∧ fn = .bool true ∧ i = .int .i64 k ∧ Fl wr A y ∧ Below w7.heap.size w7 wr ∧ Hid (OldSt f m n k y)) (fun _ _ i _ => 4 - (intOf i).toNat)
      case atStart => exact ⟨0, _, A7, c7, by omega, rfl, rfl, rfl, hF7, Below.refl _ _, hOld⟩
      case round =>
        obtain ⟨k, y, Ay, cy, hk, rfl, rfl, rfl, hFy, hBy, hOy⟩ := hrel
        by_cases hlt : k < 4
        · have hk1 : (k : Int) < 4 := by omega
          obtain ⟨z, hz1, hz2⟩ := old_step hOy.out hlt hn1 (by omega)
          have HZ1 := Lib.hid hz1
          have HZ2 := Lib.hid hz2
          have e1 : IntKind.i64.wrap (n + (k : Int)) = n + (k : Int) := IntWalk.i64_in _ (by omega)
          have e2 : IntKind.i64.wrap (1 + (k : Int)) = 1 + (k : Int) := IntWalk.i64_in _ (by omega)
          clear hz1 hz2
          go_wp2_with fail
          refine (impl_FlashWrite y m ⟨1, n + k, 1 + k, 0⟩ false _ _ cy _ rfl hFy).mono ?_
          rw [HZ1.out]
          rintro e w8 ⟨A8, c8, rfl, _, hO8, hb⟩
          dsimp only at hO8 ⊢
          have hB8 := hBy.trans (hb.mono hBy.size)
          have hF8 := hO8.fl
          clear hb hO8 hFy e1 e2
          go_wp2
          go_roundw
          (case rel => exact ⟨k + 1, z, A8, c8, by omega, rfl, rfl, by go_num, hF8, hB8, HZ2⟩)
          (case measure => simp [intOf]; omega)
        · have hk4 : (4 : Int) ≤ (k : Int) := by omega
          have hkk : k = 4 := by omega
          have hend := old_end (hkk ▸ hOy.out) hm4 HOK.out (fun c hc => by rw [← HN.out]; exact top_lt hc)
          have d1 : (findOld y != (m : Int)) = true := by rw [bne_iff_ne]; exact hend.1
          have d2 := Lib.hid hend.2
          have hBw := hB7.trans (hBy.mono (by omega))
          have hsw := hBy.size
          clear hend hkk
          go_wp2_with fail
          refine (impl_FindOld y _ _ cy _ rfl hFy).mono ?_
          rintro e w8 ⟨rfl, hb⟩
          have hs8 := hb.size
          have hF8 := hFy.below hb (Nat.le_refl _)
          have hB8 := hBw.trans (hb.mono (by omega))
          clear hb hFy hBw
          go_wp2_with fail
          refine (impl_FindOrder y _ _ cy _ rfl hF8).mono ?_
          rw [d2.out]
          rintro e w9 ⟨rfl, hb⟩
          have hBf := hB8.trans (hb.mono (by omega))
          go_wp2
          go_ret
          exact ⟨rfl, hBf⟩
  · have hno : Hid (findOrderI f = false) := by unfold Hid; simpa using hord
    rw [hno.out]
    clear hord
    go_wp2_with fail
    refine (spec_FindOrder f _ _ d _ rfl (small_len hF.out) hO3.fl).mono ?_
    rw [← findOrder_eq, hno.out]
    rintro e w4 ⟨rfl, hb⟩
    have hBf := hB3.trans (hb.mono (by omega))
    go_wp2
    go_ret
    exact ⟨rfl, hBf⟩
end Go.Proofs.Ytfkjhnfbajflaaa
