/- Walks: a law whose arguments are a statement's own: FnExactStepsTo. -/
import Derived.Test.YtbekihiiildgmaaU6
namespace Go.Proofs.Ytbekihiiildgmaa
set_option linter.unusedVariables false
set_option linter.unusedSimpArgs false
open Go.RowKit Go.Maps
set_option maxHeartbeats 8000000
set_option maxRecDepth 100000
theorem Small.end3 {f : List Bk} (h : Small f) {m : Nat} (hm : m ≤ 1048576) : endFl 1 f + m < 1000000000000 * 100 := by
  have h1 := endFl_le 1048576 f 1 (fun b hb => by have := h.2 b hb; omega)
  have h2 := h.1
  omega
theorem toR_small {s t : St} {xs : List Sp} {cut : Int} {torn ok : Bool} (h : toR s xs cut torn = (t, ok)) : Small t.flash ∧ t.disk.length ≤ 1048576 := by
  by_cases hk : (toR s xs cut torn).2 = true
  · obtain ⟨_, hos, hst, htr⟩ := toR_true hk
    rw [htr] at h
    cases h
    have hf := doTo_fine hos.fine (fun x hx => stepB_fine (hst x hx)) cut torn
    exact ⟨⟨by rw [hf.1.1]; omega, fun b hb => by rw [(hf.1.2 b hb).1]; omega⟩, by rw [hf.2.1]; omega⟩
  · rw [toR_false hk] at h
    cases h
    exact ⟨⟨by simp [st0], by simp [st0]⟩, by simp [st0]⟩
theorem spec_StepsTo_r {s t : St} {xs : List Sp} {cut : Int} {torn ok : Bool} (h : toR s xs cut torn = (t, ok)) (A D V : Option Addr) (n m c d cs k : Nat) (w : World) (hn : n = s.flash.length) (hm : m = s.disk.length) (hl : s.flash.length < 1000000000000) (hk : k = xs.length) (hxl : xs.length < 1000000000000) (hF : Fl w A s.flash) (hD : Row w D (ints s.disk)) (hX : Row w V (sps xs)) (hV : ∀ b, blk V b → b < w.heap.size) :
    Calls Try.prog 32 #[.agg #[.slice A n c, .slice D m d], .slice V k cs, .int .i64 cut, .bool torn] w fun e w' => ∃ A' c' D' d', e = .returned (.tuple #[.agg #[.slice A' t.flash.length c', .slice D' t.disk.length d'], .bool ok]) ∧ Fl w' A' t.flash ∧ Row w' D' (ints t.disk) ∧ Below w.heap.size w w' := by
  subst hk
  refine (spec_StepsTo s xs cut torn A D V n m c d cs w hn hm hl hxl hF hD hX hV).mono fun e w' q => ?_
  rw [h] at q
  obtain ⟨A', c', D', d', rfl, h1, h2, _, h4⟩ := q
  exact ⟨A', c', D', d', rfl, h1.fl, h2, h4⟩
theorem impl_StepsTo_r {s t : St} {xs : List Sp} {cut : Int} {torn ok : Bool} (h : toR s xs cut torn = (t, ok)) (A D V : Option Addr) (n m c d cs k : Nat) (w : World) (hn : n = s.flash.length) (hm : m = s.disk.length) (hk : k = xs.length) (hxl : xs.length < 1000000000000) (hF : Fl w A s.flash) (hD : Row w D (ints s.disk)) (hX : Row w V (sps xs)) :
    Calls Try.prog 26 #[.agg #[.slice A n c, .slice D m d], .slice V k cs, .int .i64 cut, .bool torn] w fun e w' => ∃ A' c' D' d', e = .returned (.tuple #[.agg #[.slice A' t.flash.length c', .slice D' t.disk.length d'], .bool ok]) ∧ OSt w' w.heap.size w'.heap.size A' t.flash D' t.disk ∧ Below w.heap.size w w' := by
  subst hk
  refine (impl_StepsTo_own s xs cut torn A D V n m c d cs w hn hm hxl hF hD hX).mono fun e w' q => ?_
  rw [h] at q
  exact q
theorem law_FnExactStepsTo {w : World} (A D V : Option Addr) (c d cs : Nat) (s : St) (xs : List Sp) (hs : List (Option Addr × Nat)) (hn : s.flash.length ≤ 9223372036854775807) (hp : ∀ b ∈ s.flash, b.pages.length ≤ 9223372036854775807) (hx : s.disk.length ≤ 9223372036854775807) (hxn : xs.length ≤ 9223372036854775807) (hF : RBks w A s.flash hs) (hD : RRow w D (ints s.disk)) (hX : RRow w V (sps xs)) (cut : Int) (torn : Bool) :
    Calls Try.prog 13 #[.agg #[.slice A s.flash.length c, .slice D s.disk.length d], .slice V xs.length cs, .int .i64 cut, .bool torn] w fun e w' => e = .returned (.bool true) ∧ Below w.heap.size w w' := by
  have hb0 : Below w.heap.size w (w.alloc (.cells #[.slice A s.flash.length c, .slice D s.disk.length d] 63)) := (Below.refl _ _).alloc (Nat.le_refl _) _
  have qs := Row.new w #[.slice A s.flash.length c, .slice D s.disk.length d] 63
  have hz0 : (w.alloc (.cells #[.slice A s.flash.length c, .slice D s.disk.length d] 63)).heap.size = w.heap.size + 1 := by simp
  have hF0 := hF.below hb0 (Nat.le_refl _)
  have hD0 := hD.below hb0 (Nat.le_refl _)
  have hX0 := hX.below hb0 (Nat.le_refl _)
  obtain ⟨W0, hW0⟩ : ∃ W, w.alloc (.cells #[.slice A s.flash.length c, .slice D s.disk.length d] 63) = W := ⟨_, rfl⟩
  rw [hW0] at hb0 qs hz0 hF0 hD0 hX0
  obtain ⟨s0, _⟩ := qs.at0 (j := 0) rfl
  obtain ⟨s1, _⟩ := qs.at0 (j := 1) rfl
  have FX := Lib.hid (fun X (h : Below W0.heap.size W0 X) => (⟨hF0.below h (Nat.le_refl _), hD0.below h (Nat.le_refl _), hX0.below h (Nat.le_refl _), (h.cell (p := ⟨w.heap.size, 0, none⟩) (by show w.heap.size < _; omega)).trans s0, (h.cell (p := ⟨w.heap.size, 1, none⟩) (by show w.heap.size < _; omega)).trans s1⟩ : RBks X A s.flash hs ∧ RRow X D (ints s.disk) ∧ RRow X V (sps xs) ∧ X.cell? ⟨w.heap.size, 0, none⟩ = some (.slice A s.flash.length c) ∧ X.cell? ⟨w.heap.size, 1, none⟩ = some (.slice D s.disk.length d)))
  have H1 := Lib.hid (laws_szStore A D c d s.flash s.disk hs W0 hn hp hx hF0)
  have HXN := Lib.hid hxn
  clear hn hp hx hxn hF hD hX hF0 hD0 hX0 qs hz0
  go_enter Try.func13, Try.ntmps13
  go_wp2_with fail
  with_reducible refine H1.out.mono ?_
  rintro e w1 ⟨rfl, hB1⟩
  clear H1
  obtain ⟨_, _, _, s0, s1⟩ := FX.out _ hB1
  by_cases hsz : szSt 1048576 s.flash s.disk < 0
  · go_wp2
    go_ret
    exact ⟨rfl, hb0.trans (hB1.mono hb0.size)⟩
  · obtain ⟨hsm, hdm⟩ := szSt_small (show 0 ≤ szSt 1048576 s.flash s.disk by omega)
    have HSM := Lib.hid (show Small s.flash from hsm)
    have HDM := Lib.hid hdm
    clear hsm hdm
    have hszl : szSt 1048576 s.flash s.disk ≤ 1048576 := by
      have h1 := szFl_le s.flash (show (0 : Int) ≤ 1048576 by omega)
      unfold szSt
      split
      · omega
      · have := down_le (l := szFl 1048576 s.flash) (n := s.disk.length) h1.1; omega
    generalize szSt 1048576 s.flash s.disk = z at *
    go_wp2_with fail
    refine (laws_szStepS V xs.length cs z _ (by omega) hszl HXN.out).mono ?_
    rintro e w2 ⟨rfl, rfl⟩
    by_cases hsz2 : down z xs.length < 0
    · go_wp2
      go_ret
      exact ⟨rfl, hb0.trans (hB1.mono hb0.size)⟩
    · have hxl : xs.length ≤ 1048576 := by
        unfold down at hsz2
        split at hsz2 <;> omega
      generalize down z xs.length = z2 at *
      obtain ⟨t, ok, htr⟩ : ∃ t ok, toR s xs cut torn = (t, ok) := ⟨_, _, rfl⟩
      have HTR := Lib.hid htr
      have HTS := Lib.hid (toR_small htr)
      have hkk : (ok != ok) = false := by simp
      clear htr hszl
      go_wp2_with fail
      refine (laws_toStore A D c d s.flash s.disk hs _ HSM.out.1 HSM.out.2 HDM.out (FX.out _ hB1).1 (FX.out _ hB1).2.1).mono ?_
      rintro e w3 ⟨A3, D3, rfl, hO3, hb⟩
      have hs3 := hb.size
      have hB3 := hB1.trans (hb.mono hB1.size)
      obtain ⟨_, _, _, s0, s1⟩ := FX.out _ hB3
      clear hb
      go_wp2_with fail
      refine (laws_toStepS V cs xs _ hxl (FX.out _ hB3).2.2.1).mono ?_
      rintro e w4 ⟨g4, rfl, _, hg4, hX4, hb⟩
      have hs4 := hb.size
      have hB4 := hB3.trans (hb.mono hB3.size)
      replace hO3 := hO3.below hb (Nat.le_refl _)
      obtain ⟨_, _, _, s0, s1⟩ := FX.out _ hB4
      clear hb
      go_wp2_with fail
      refine (spec_StepsTo_r HTR.out A3 D3 (some ⟨g4, 0, none⟩) _ _ _ _ _ _ _ rfl rfl HSM.out.len rfl (by omega) hO3.ofl.fl hO3.disk hX4 (fun b hb => by rw [blk_some] at hb; omega)).mono ?_
      rintro e w5 ⟨A0, c0, D0, d0, rfl, hF0, hD0, hb⟩
      have hs5 := hb.size
      have hB5 := hB4.trans (hb.mono hB4.size)
      obtain ⟨_, _, _, s0, s1⟩ := FX.out _ hB5
      clear hb
      have hbb : Below w5.heap.size w5 (w5.alloc (.cells #[.slice A0 t.flash.length c0, .slice D0 t.disk.length d0] 26)) := by (repeat (first | (with_reducible exact Below.refl _ _) | (with_reducible assumption) | (refine Below.setCell ?_ (by first | omega | exact hB.size | exact hb.size | (have h := hB.size; simp; omega) | (have h := hb.size; simp; omega) | (simp; omega) | simp) _) | (refine Below.alloc ?_ (by first | omega | exact hB.size | exact hb.size | (have h := hB.size; simp; omega) | (have h := hb.size; simp; omega) | (simp; omega) | simp) _) | (refine Below.drew ?_)))
      have hq := Row.new w5 #[.slice A0 t.flash.length c0, .slice D0 t.disk.length d0] 26
      have hBW3 := hB5.trans (hbb.mono hB5.size)
      have hzW3 : (w5.alloc (.cells #[.slice A0 t.flash.length c0, .slice D0 t.disk.length d0] 26)).heap.size = w5.heap.size + 1 := by simp
      replace hF0 := hF0.below hbb (Nat.le_refl _)
      replace hD0 := hD0.below hbb (Nat.le_refl _)
      obtain ⟨W3, hEW3⟩ : ∃ W, w5.alloc (.cells #[.slice A0 t.flash.length c0, .slice D0 t.disk.length d0] 26) = W := ⟨_, rfl⟩
      obtain ⟨bw, hEbw⟩ : ∃ b, w5.heap.size = b := ⟨_, rfl⟩
      rw [hEW3] at hq hBW3 hzW3 hF0 hD0
      rw [hEbw] at hq hzW3
      obtain ⟨m0, _⟩ := hq.at0 (j := 0) rfl
      obtain ⟨m1, _⟩ := hq.at0 (j := 1) rfl
      clear hbb hq
      have hsW3 := hBW3.size
      have hwl : w.heap.size < W3.heap.size := by have := lt_of_cell s0; omega
      have FY := Lib.hid (fun X (h : Below W3.heap.size W3 X) => (⟨(FX.out X (hBW3.trans (h.mono hBW3.size))).1, (FX.out X (hBW3.trans (h.mono hBW3.size))).2.1, (FX.out X (hBW3.trans (h.mono hBW3.size))).2.2.1, (FX.out X (hBW3.trans (h.mono hBW3.size))).2.2.2.1, (FX.out X (hBW3.trans (h.mono hBW3.size))).2.2.2.2, (h.cell (p := ⟨bw, 0, none⟩) (lt_of_cell m0)).trans m0, (h.cell (p := ⟨bw, 1, none⟩) (lt_of_cell m1)).trans m1, hF0.below h (Nat.le_refl _), hD0.below h (Nat.le_refl _)⟩ : RBks X A s.flash hs ∧ RRow X D (ints s.disk) ∧ RRow X V (sps xs) ∧ X.cell? ⟨w.heap.size, 0, none⟩ = some (.slice A s.flash.length c) ∧ X.cell? ⟨w.heap.size, 1, none⟩ = some (.slice D s.disk.length d) ∧ X.cell? ⟨bw, 0, none⟩ = some (.slice A0 t.flash.length c0) ∧ X.cell? ⟨bw, 1, none⟩ = some (.slice D0 t.disk.length d0) ∧ Fl X A0 t.flash ∧ Row X D0 (ints t.disk)))
      have hBb := hb0.trans (hBW3.mono hb0.size)
      have hBz : Below W3.heap.size W3 W3 := Below.refl _ _
      obtain ⟨_, _, _, s0, s1, m0, m1, _, _⟩ := FY.out _ hBz
      clear hF0 hD0 hO3 hX4 hBW3 hzW3
      go_wp2_with fail
      refine (laws_toStore A D c d s.flash s.disk hs _ HSM.out.1 HSM.out.2 HDM.out (FY.out _ hBz).1 (FY.out _ hBz).2.1).mono ?_
      rintro e w6 ⟨A1, D1, rfl, hO1, hb⟩
      have hs6 := hb.size
      have hB6 := hBz.trans (hb.mono hBz.size)
      obtain ⟨_, _, _, s0, s1, m0, m1, _, _⟩ := FY.out _ hB6
      clear hb
      have hbb : Below w6.heap.size w6 (w6.alloc (.cells #[.slice A1 s.flash.length s.flash.length, .slice D1 s.disk.length s.disk.length] 26)) := by (repeat (first | (with_reducible exact Below.refl _ _) | (with_reducible assumption) | (refine Below.setCell ?_ (by first | omega | exact hB.size | exact hb.size | (have h := hB.size; simp; omega) | (have h := hb.size; simp; omega) | (simp; omega) | simp) _) | (refine Below.alloc ?_ (by first | omega | exact hB.size | exact hb.size | (have h := hB.size; simp; omega) | (have h := hb.size; simp; omega) | (simp; omega) | simp) _) | (refine Below.drew ?_)))
      have hq := Row.new w6 #[.slice A1 s.flash.length s.flash.length, .slice D1 s.disk.length s.disk.length] 26
      have hBW6 := hB6.trans (hbb.mono hB6.size)
      have hzW6 : (w6.alloc (.cells #[.slice A1 s.flash.length s.flash.length, .slice D1 s.disk.length s.disk.length] 26)).heap.size = w6.heap.size + 1 := by simp
      replace hO1 := hO1.below hbb (Nat.le_refl _)
      obtain ⟨W6, hEW6⟩ : ∃ W, w6.alloc (.cells #[.slice A1 s.flash.length s.flash.length, .slice D1 s.disk.length s.disk.length] 26) = W := ⟨_, rfl⟩
      obtain ⟨bx, hEbx⟩ : ∃ b, w6.heap.size = b := ⟨_, rfl⟩
      rw [hEW6] at hq hBW6 hzW6 hO1
      rw [hEbx] at hq hzW6
      obtain ⟨x0, _⟩ := hq.at0 (j := 0) rfl
      obtain ⟨x1, _⟩ := hq.at0 (j := 1) rfl
      clear hbb hq
      obtain ⟨_, _, _, s0, s1, m0, m1, _, _⟩ := FY.out _ hBW6
      have hq6 : w6.heap.size ≤ W6.heap.size := by omega
      have hbxW : bx < W6.heap.size := by omega
      clear hzW6
      go_wp2_with fail
      refine (laws_toStepS V cs xs _ hxl (FY.out _ hBW6).2.2.1).mono ?_
      rintro e w7 ⟨g1, rfl, hg1, hg1', hX1, hb⟩
      have hs7 := hb.size
      have hB7 := hBW6.trans (hb.mono hBW6.size)
      replace hO1 := hO1.below hb (Nat.le_refl _)
      replace x0 := (hb.cell (p := ⟨bx, 0, none⟩) (lt_of_cell x0)).trans x0
      replace x1 := (hb.cell (p := ⟨bx, 1, none⟩) (lt_of_cell x1)).trans x1
      obtain ⟨_, _, _, s0, s1, m0, m1, _, _⟩ := FY.out _ hB7
      clear hb
      go_wp2_with fail
      refine (impl_StepsTo_r HTR.out A1 D1 (some ⟨g1, 0, none⟩) _ _ _ _ _ _ _ rfl rfl rfl (by omega) hO1.ofl.fl hO1.disk hX1).mono ?_
      rintro e w8 ⟨A2, c2, D2, d2, rfl, hO2, hb⟩
      have hs8 := hb.size
      have hB8 := hB7.trans (hb.mono hB7.size)
      replace hO1 := hO1.below hb (Nat.le_refl _)
      replace hX1 := hX1.below hb (Nat.le_refl _)
      replace x0 := (hb.cell (p := ⟨bx, 0, none⟩) (lt_of_cell x0)).trans x0
      replace x1 := (hb.cell (p := ⟨bx, 1, none⟩) (lt_of_cell x1)).trans x1
      obtain ⟨_, _, _, s0, s1, m0, m1, _, _⟩ := FY.out _ hB8
      clear hb
      have hbb : Below w8.heap.size w8 (w8.alloc (.cells #[.slice A2 t.flash.length c2, .slice D2 t.disk.length d2] 26)) := by (repeat (first | (with_reducible exact Below.refl _ _) | (with_reducible assumption) | (refine Below.setCell ?_ (by first | omega | exact hB.size | exact hb.size | (have h := hB.size; simp; omega) | (have h := hb.size; simp; omega) | (simp; omega) | simp) _) | (refine Below.alloc ?_ (by first | omega | exact hB.size | exact hb.size | (have h := hB.size; simp; omega) | (have h := hb.size; simp; omega) | (simp; omega) | simp) _) | (refine Below.drew ?_)))
      have hq := Row.new w8 #[.slice A2 t.flash.length c2, .slice D2 t.disk.length d2] 26
      have hBW8 := hB8.trans (hbb.mono hB8.size)
      have hzW8 : (w8.alloc (.cells #[.slice A2 t.flash.length c2, .slice D2 t.disk.length d2] 26)).heap.size = w8.heap.size + 1 := by simp
      replace hO1 := hO1.below hbb (Nat.le_refl _)
      replace hX1 := hX1.below hbb (Nat.le_refl _)
      replace hO2 := hO2.below hbb (Nat.le_refl _)
      replace x0 := (hbb.cell (p := ⟨bx, 0, none⟩) (lt_of_cell x0)).trans x0
      replace x1 := (hbb.cell (p := ⟨bx, 1, none⟩) (lt_of_cell x1)).trans x1
      obtain ⟨W8, hEW8⟩ : ∃ W, w8.alloc (.cells #[.slice A2 t.flash.length c2, .slice D2 t.disk.length d2] 26) = W := ⟨_, rfl⟩
      obtain ⟨bg, hEbg⟩ : ∃ b, w8.heap.size = b := ⟨_, rfl⟩
      rw [hEW8] at hq hBW8 hzW8 hO1 hX1 hO2 x0 x1
      rw [hEbg] at hq hzW8
      obtain ⟨g0, _⟩ := hq.at0 (j := 0) rfl
      obtain ⟨gg1, _⟩ := hq.at0 (j := 1) rfl
      clear hbb hq
      obtain ⟨_, _, _, s0, s1, m0, m1, _, _⟩ := FY.out _ hBW8
      have hq8 : w8.heap.size ≤ W8.heap.size := by omega
      have hbx7 : bx < w7.heap.size := by omega
      clear hzW8
      go_wp2_with fail
      refine (laws_eqStore A2 A0 D2 D0 _ _ _ _ _ _ _ _ t.flash t.flash t.disk t.disk _ rfl rfl rfl rfl HTS.out.1.len HTS.out.1.len HTS.out.1.pages HTS.out.1.pages (by have := HTS.out.2; omega) (by have := HTS.out.2; omega) hO2.ofl.fl (FY.out _ hBW8).2.2.2.2.2.2.2.1 hO2.disk (FY.out _ hBW8).2.2.2.2.2.2.2.2).mono ?_
      rintro e w9 ⟨rfl, hb⟩
      rw [show (decide (t.flash = t.flash) && decide (t.disk = t.disk)) = true from by simp]
      have hs9 := hb.size
      have hB9 := hBW8.trans (hb.mono hBW8.size)
      replace hO1 := hO1.below hb (Nat.le_refl _)
      replace hX1 := hX1.below hb (Nat.le_refl _)
      replace hO2 := hO2.below hb (Nat.le_refl _)
      replace x0 := (hb.cell (p := ⟨bx, 0, none⟩) (lt_of_cell x0)).trans x0
      replace x1 := (hb.cell (p := ⟨bx, 1, none⟩) (lt_of_cell x1)).trans x1
      replace g0 := (hb.cell (p := ⟨bg, 0, none⟩) (lt_of_cell g0)).trans g0
      replace gg1 := (hb.cell (p := ⟨bg, 1, none⟩) (lt_of_cell gg1)).trans gg1
      obtain ⟨_, _, _, s0, s1, m0, m1, _, _⟩ := FY.out _ hB9
      clear hb
      have hBV : Below W3.heap.size W3 w9.drew := hB9.drew
      have hx14 := Lib.hid (fun X (h : Below w9.drew.heap.size w9.drew X) => (⟨(h.cell (p := ⟨bx, 0, none⟩) (show bx < w9.heap.size from lt_of_cell x0)).trans (show w9.drew.cell? _ = _ from x0), (h.cell (p := ⟨bx, 1, none⟩) (show bx < w9.heap.size from lt_of_cell x1)).trans (show w9.drew.cell? _ = _ from x1), (FY.out X (hBV.trans (h.mono hBV.size))).2.2.2.1, (FY.out X (hBV.trans (h.mono hBV.size))).2.2.2.2.1⟩ : X.cell? ⟨bx, 0, none⟩ = some (.slice A1 s.flash.length s.flash.length) ∧ X.cell? ⟨bx, 1, none⟩ = some (.slice D1 s.disk.length s.disk.length) ∧ X.cell? ⟨w.heap.size, 0, none⟩ = some (.slice A s.flash.length c) ∧ X.cell? ⟨w.heap.size, 1, none⟩ = some (.slice D s.disk.length d)))
      have hg14 := Lib.hid (fun X (h : Below w9.drew.heap.size w9.drew X) => (⟨(h.cell (p := ⟨bg, 0, none⟩) (show bg < w9.heap.size from lt_of_cell g0)).trans (show w9.drew.cell? _ = _ from g0), (h.cell (p := ⟨bg, 1, none⟩) (show bg < w9.heap.size from lt_of_cell gg1)).trans (show w9.drew.cell? _ = _ from gg1)⟩ : X.cell? ⟨bg, 0, none⟩ = some (.slice A2 t.flash.length c2) ∧ X.cell? ⟨bg, 1, none⟩ = some (.slice D2 t.disk.length d2)))
      have hvb : Below w9.drew.heap.size w9.drew w9.drew := Below.refl _ _
      have hO1' := hO1.drew
      have hX1' := hX1.drew
      have hO2' := hO2.drew
      clear hO1 hX1 hO2
      have hO1 := hO1'
      have hX1 := hX1'
      have hO2 := hO2'
      clear hO1' hX1' hO2' s0 s1 m0 m1 x0 x1 g0 gg1
      go_wp2
      refine wp_region_held_drew (S := fun X => X.cell? ⟨bx, 0, none⟩ = some (.slice A1 s.flash.length s.flash.length) ∧ X.cell? ⟨bx, 1, none⟩ = some (.slice D1 s.disk.length s.disk.length) ∧ X.cell? ⟨w.heap.size, 0, none⟩ = some (.slice A s.flash.length c) ∧ X.cell? ⟨w.heap.size, 1, none⟩ = some (.slice D s.disk.length d)) (by kernel_rfl) (hx14.out _ hvb) (fun hHeld0 => ?_)
      refine wpAnyH_take (i := 0) (v := ?vc1) rfl (by kernel_rfl) (by kernel_rfl) (by kernel_rfl) (fun _ _ _ h => h) (Or.inl ⟨by kernel_rfl, ?yc1⟩) hHeld0 ?rc1
      case yc1 => (intro w' hS; (try dsimp only at hS); obtain ⟨s0, s1, s2, s3⟩ := hS; (try go_simp); (try with_reducible rfl))
      try simp only [Act.put, List.getElem_toArray, List.getElem_cons_zero, List.getElem_cons_succ, List.setIfInBounds_toArray, List.set_cons_zero, List.set_cons_succ]
      refine wpAnyH_take (i := 1) (v := ?vc2) rfl (by kernel_rfl) (by kernel_rfl) (by kernel_rfl) (fun _ _ _ h => h) (Or.inl ⟨by kernel_rfl, ?yc2⟩) hHeld0 ?rc2
      case yc2 => (intro w' hS; (try dsimp only at hS); obtain ⟨s0, s1, s2, s3⟩ := hS; (try go_simp); (try with_reducible rfl))
      try simp only [Act.put, List.getElem_toArray, List.getElem_cons_zero, List.getElem_cons_succ, List.setIfInBounds_toArray, List.set_cons_zero, List.set_cons_succ]
      refine wpAnyH_ready (rs := [2]) (by kernel_rfl) (by simp) ?_
      refine AllReadyH.cons rfl (fun K hK => ?_) AllReadyH.nil
      go_simp
      refine (laws_toStore A D c d s.flash s.disk hs _ HSM.out.1 HSM.out.2 HDM.out (FY.out _ (hBV.trans (hvb.mono hBV.size))).1 (FY.out _ (hBV.trans (hvb.mono hBV.size))).2.1).mono ?_
      rintro e cu1 ⟨A9, D9, rfl, hO9, hc⟩
      have cb1 := hvb.trans (hc.mono hvb.size)
      replace hO1 := hO1.below hc (Nat.le_refl _)
      replace hX1 := hX1.below hc (Nat.le_refl _)
      replace hO2 := hO2.below hc (Nat.le_refl _)
      clear hc
      go_wp2_with fail
      refine hK.out _ _ ((hx14.out _ cb1)) (fun hHc1 => ?_)
      clear hK K
      try simp only [Act.put, List.getElem_toArray, List.getElem_cons_zero, List.getElem_cons_succ, List.setIfInBounds_toArray, List.set_cons_zero, List.set_cons_succ]
      refine wpAnyH_ready (rs := [3]) (by kernel_rfl) (by simp) ?_
      refine AllReadyH.cons rfl (fun K hK => ?_) AllReadyH.nil
      go_simp
      refine (laws_eqStore A1 A9 D1 D9 _ _ _ _ _ _ _ _ s.flash s.flash s.disk s.disk _ rfl rfl rfl rfl HSM.out.len HSM.out.len HSM.out.pages HSM.out.pages (by have := HDM.out; omega) (by have := HDM.out; omega) hO1.ofl.fl hO9.ofl.fl hO1.disk hO9.disk).mono ?_
      rintro e cu2 ⟨he, hc⟩
      have cb2 := cb1.trans (hc.mono cb1.size)
      rw [show (decide (s.flash = s.flash) && decide (s.disk = s.disk)) = true from by simp] at he
      subst he
      replace hO1 := hO1.below hc (Nat.le_refl _)
      replace hX1 := hX1.below hc (Nat.le_refl _)
      replace hO2 := hO2.below hc (Nat.le_refl _)
      replace hO9 := hO9.below hc (Nat.le_refl _)
      clear hc
      go_wp2_with fail
      refine hK.out _ _ ((hx14.out _ cb2)) (fun hHc2 => ?_)
      clear hK K
      try simp only [Act.put, List.getElem_toArray, List.getElem_cons_zero, List.getElem_cons_succ, List.setIfInBounds_toArray, List.set_cons_zero, List.set_cons_succ]
      refine wpAnyH_take (i := 4) (v := ?vc3) rfl (by kernel_rfl) (by kernel_rfl) (by kernel_rfl) (fun _ _ _ h => h) (Or.inl ⟨by kernel_rfl, ?yc3⟩) hHc2 ?rc3
      case yc3 => (intro w' hS; (try dsimp only at hS); obtain ⟨s0, s1, s2, s3⟩ := hS; (try go_simp); (try with_reducible rfl))
      try simp only [Act.put, List.getElem_toArray, List.getElem_cons_zero, List.getElem_cons_succ, List.setIfInBounds_toArray, List.set_cons_zero, List.set_cons_succ]
      refine wpAnyH_done (by kernel_rfl) ?_ _
      have hBc := hBV.trans (cb2.mono hBV.size)
      have x0 := (hx14.out _ cb2).1
      have x1 := (hx14.out _ cb2).2.1
      have g0 := (hg14.out _ cb2).1
      have gg1 := (hg14.out _ cb2).2
      have hsc9 : w9.heap.size ≤ cu2.heap.size := cb2.size
      obtain ⟨_, _, _, s0, s1, m0, m1, _, _⟩ := FY.out _ hBc
      clear hx14 hg14
      go_wp2_with fail
      refine (laws_toStepS V cs xs _ hxl (FY.out _ hBc).2.2.1).mono ?_
      rintro e w16 ⟨g6, rfl, _, _, hX6, hb⟩
      have hs16 := hb.size
      have hB16 := hBc.trans (hb.mono hBc.size)
      replace hO1 := hO1.below hb (Nat.le_refl _)
      replace hX1 := hX1.below hb (Nat.le_refl _)
      replace hO2 := hO2.below hb (Nat.le_refl _)
      replace x0 := (hb.cell (p := ⟨bx, 0, none⟩) (lt_of_cell x0)).trans x0
      replace x1 := (hb.cell (p := ⟨bx, 1, none⟩) (lt_of_cell x1)).trans x1
      replace g0 := (hb.cell (p := ⟨bg, 0, none⟩) (lt_of_cell g0)).trans g0
      replace gg1 := (hb.cell (p := ⟨bg, 1, none⟩) (lt_of_cell gg1)).trans gg1
      obtain ⟨_, _, _, s0, s1, m0, m1, _, _⟩ := FY.out _ hB16
      clear hb
      go_wp2_with fail
      refine (laws_eqStepS (some ⟨g1, 0, none⟩) (some ⟨g6, 0, none⟩) _ _ _ _ xs xs _ rfl rfl (by omega) (by omega) hX1 hX6).mono ?_
      rintro e w17 ⟨rfl, hb⟩
      rw [show decide (xs = xs) = true from by simp]
      have hs17 := hb.size
      have hB17 := hB16.trans (hb.mono hB16.size)
      replace hO1 := hO1.below hb (Nat.le_refl _)
      replace hX1 := hX1.below hb (Nat.le_refl _)
      replace hO2 := hO2.below hb (Nat.le_refl _)
      replace hX6 := hX6.below hb (Nat.le_refl _)
      replace x0 := (hb.cell (p := ⟨bx, 0, none⟩) (lt_of_cell x0)).trans x0
      replace x1 := (hb.cell (p := ⟨bx, 1, none⟩) (lt_of_cell x1)).trans x1
      replace g0 := (hb.cell (p := ⟨bg, 0, none⟩) (lt_of_cell g0)).trans g0
      replace gg1 := (hb.cell (p := ⟨bg, 1, none⟩) (lt_of_cell gg1)).trans gg1
      obtain ⟨_, _, _, s0, s1, m0, m1, _, _⟩ := FY.out _ hB17
      clear hb
      have HE := Lib.hid (HSM.out.end3 HDM.out)
      have HGE := endFl_ge s.flash 1
      go_wp2_with fail
      refine (laws_markStore A1 D1 _ _ _ _ s.flash s.disk 1 W3.heap.size w6.heap.size _ rfl rfl HSM.out.len HSM.out.pages (by have := HDM.out; omega) (by omega) (by have := HE.out; omega) (by omega) hO1).mono ?_
      rintro e w19 ⟨rfl, _, hA⟩
      have hs19 := hA.size
      have hsB19 := hB17.size
      have hB19 := hB17.trans (hA.below (B := W3.heap.size) hsB19 (fun i hi => by omega))
      replace x0 := (hA.cell (b := bx) (lt_of_cell x0) (by omega) 0).trans x0
      replace x1 := (hA.cell (b := bx) (lt_of_cell x1) (by omega) 1).trans x1
      replace g0 := (hA.cell (b := bg) (lt_of_cell g0) (by omega) 0).trans g0
      replace gg1 := (hA.cell (b := bg) (lt_of_cell gg1) (by omega) 1).trans gg1
      obtain ⟨_, _, _, s0, s1, m0, m1, _, _⟩ := FY.out _ hB19
      replace hX1 := hX1.agr hA (fun b hb e => by rw [blk_some] at hb; omega)
      replace hO2 := hO2.far hA (.inr (by omega))
      clear hA hO1
      have HE2 := HE.out
      go_wp2_with fail
      refine (laws_markStepS (some ⟨g1, 0, none⟩) _ _ xs (endFl 1 s.flash + s.disk.length) _ rfl (by omega) (by omega) (by omega) hX1).mono ?_
      rintro e w20 ⟨rfl, _, hA⟩
      have hA' : Agr (fun b => g1 ≤ b ∧ b < g1 + 1) w19 w20 := hA.mono (fun b hb => by rw [blk_some] at hb; omega)
      have hs20 := hA'.size
      have hsB20 := hB19.size
      have hB20 := hB19.trans (hA'.below (B := W3.heap.size) hsB20 (fun i hi => by omega))
      replace x0 := (hA'.cell (b := bx) (lt_of_cell x0) (by omega) 0).trans x0
      replace x1 := (hA'.cell (b := bx) (lt_of_cell x1) (by omega) 1).trans x1
      replace g0 := (hA'.cell (b := bg) (lt_of_cell g0) (by omega) 0).trans g0
      replace gg1 := (hA'.cell (b := bg) (lt_of_cell gg1) (by omega) 1).trans gg1
      obtain ⟨_, _, _, s0, s1, m0, m1, _, _⟩ := FY.out _ hB20
      replace hO2 := hO2.far hA' (.inr (by omega))
      have hk0 : ¬ (endFl 1 s.flash + (s.disk.length : Int) + 8 * (xs.length : Int) < 0) := by omega
      clear hA hA' hX1
      go_wp2_with fail
      refine (laws_eqStore A2 A0 D2 D0 _ _ _ _ _ _ _ _ t.flash t.flash t.disk t.disk _ rfl rfl rfl rfl HTS.out.1.len HTS.out.1.len HTS.out.1.pages HTS.out.1.pages (by have := HTS.out.2; omega) (by have := HTS.out.2; omega) hO2.ofl.fl (FY.out _ hB20).2.2.2.2.2.2.2.1 hO2.disk (FY.out _ hB20).2.2.2.2.2.2.2.2).mono ?_
      rintro e w21 ⟨rfl, hb⟩
      rw [show (decide (t.flash = t.flash) && decide (t.disk = t.disk)) = true from by simp]
      have hs21 := hb.size
      have hB21 := hB20.trans (hb.mono hB20.size)
      replace hO2 := hO2.below hb (Nat.le_refl _)
      replace x0 := (hb.cell (p := ⟨bx, 0, none⟩) (lt_of_cell x0)).trans x0
      replace x1 := (hb.cell (p := ⟨bx, 1, none⟩) (lt_of_cell x1)).trans x1
      replace g0 := (hb.cell (p := ⟨bg, 0, none⟩) (lt_of_cell g0)).trans g0
      replace gg1 := (hb.cell (p := ⟨bg, 1, none⟩) (lt_of_cell gg1)).trans gg1
      obtain ⟨_, _, _, s0, s1, m0, m1, _, _⟩ := FY.out _ hB21
      clear hb
      have HET := Lib.hid (HTS.out.1.end3 HTS.out.2)
      have HGT := endFl_ge t.flash 1
      clear HE2 HGE
      go_wp2_with fail
      refine (laws_markStore A2 D2 _ _ _ _ t.flash t.disk 1 w7.heap.size w8.heap.size _ rfl rfl HTS.out.1.len HTS.out.1.pages (by have := HTS.out.2; omega) (by omega) (by have := HET.out; omega) (by omega) hO2).mono ?_
      rintro e w24 ⟨rfl, hM, hA⟩
      have hs24 := hA.size
      have hsB24 := hB21.size
      have hB24 := hB21.trans (hA.below (B := W3.heap.size) hsB24 (fun i hi => by omega))
      replace x0 := (hA.cell (b := bx) (lt_of_cell x0) (by omega) 0).trans x0
      replace x1 := (hA.cell (b := bx) (lt_of_cell x1) (by omega) 1).trans x1
      replace g0 := (hA.cell (b := bg) (lt_of_cell g0) (by omega) 0).trans g0
      replace gg1 := (hA.cell (b := bg) (lt_of_cell gg1) (by omega) 1).trans gg1
      obtain ⟨_, _, _, s0, s1, m0, m1, _, _⟩ := FY.out _ hB24
      clear hA hO2
      have hk1 : ¬ (endFl 1 t.flash + (t.disk.length : Int) < 0) := by omega
      go_wp2_with fail
      refine (laws_heldStore A2 D2 _ _ _ _ t.flash t.disk 1 w7.heap.size w8.heap.size _ rfl rfl HTS.out.1.len HTS.out.1.pages (by have := HTS.out.2; omega) (by omega) (by have := HET.out; omega) hM).mono ?_
      rintro e w26 ⟨rfl, hb⟩
      have hs26 := hb.size
      have hB26 := hB24.trans (hb.mono hB24.size)
      replace hM := hM.below hb (Nat.le_refl _)
      replace x0 := (hb.cell (p := ⟨bx, 0, none⟩) (lt_of_cell x0)).trans x0
      replace x1 := (hb.cell (p := ⟨bx, 1, none⟩) (lt_of_cell x1)).trans x1
      replace g0 := (hb.cell (p := ⟨bg, 0, none⟩) (lt_of_cell g0)).trans g0
      replace gg1 := (hb.cell (p := ⟨bg, 1, none⟩) (lt_of_cell gg1)).trans gg1
      obtain ⟨_, _, _, s0, s1, m0, m1, _, _⟩ := FY.out _ hB26
      clear hb
      go_wp2_with fail
      refine (laws_toStore A D c d s.flash s.disk hs _ HSM.out.1 HSM.out.2 HDM.out (FY.out _ hB26).1 (FY.out _ hB26).2.1).mono ?_
      rintro e w31 ⟨A7, D7, rfl, hO7, hb⟩
      have hs31 := hb.size
      have hB31 := hB26.trans (hb.mono hB26.size)
      replace hM := hM.below hb (Nat.le_refl _)
      replace x0 := (hb.cell (p := ⟨bx, 0, none⟩) (lt_of_cell x0)).trans x0
      replace x1 := (hb.cell (p := ⟨bx, 1, none⟩) (lt_of_cell x1)).trans x1
      replace g0 := (hb.cell (p := ⟨bg, 0, none⟩) (lt_of_cell g0)).trans g0
      replace gg1 := (hb.cell (p := ⟨bg, 1, none⟩) (lt_of_cell gg1)).trans gg1
      obtain ⟨_, _, _, s0, s1, m0, m1, _, _⟩ := FY.out _ hB31
      clear hb
      go_wp2_with fail
      refine (laws_toStepS V cs xs _ hxl (FY.out _ hB31).2.2.1).mono ?_
      rintro e w32 ⟨g7, rfl, _, _, hX7, hb⟩
      have hs32 := hb.size
      have hB32 := hB31.trans (hb.mono hB31.size)
      replace hM := hM.below hb (Nat.le_refl _)
      replace hO7 := hO7.below hb (Nat.le_refl _)
      replace x0 := (hb.cell (p := ⟨bx, 0, none⟩) (lt_of_cell x0)).trans x0
      replace x1 := (hb.cell (p := ⟨bx, 1, none⟩) (lt_of_cell x1)).trans x1
      replace g0 := (hb.cell (p := ⟨bg, 0, none⟩) (lt_of_cell g0)).trans g0
      replace gg1 := (hb.cell (p := ⟨bg, 1, none⟩) (lt_of_cell gg1)).trans gg1
      obtain ⟨_, _, _, s0, s1, m0, m1, _, _⟩ := FY.out _ hB32
      clear hb
      go_wp2_with fail
      refine (impl_StepsTo_r HTR.out A7 D7 (some ⟨g7, 0, none⟩) _ _ _ _ _ _ _ rfl rfl rfl (by omega) hO7.ofl.fl hO7.disk hX7).mono ?_
      rintro e w33 ⟨A8, c8, D8, d8, rfl, hO8, hb⟩
      have hs33 := hb.size
      have hB33 := hB32.trans (hb.mono hB32.size)
      replace hM := hM.below hb (Nat.le_refl _)
      replace hO7 := hO7.below hb (Nat.le_refl _)
      replace x0 := (hb.cell (p := ⟨bx, 0, none⟩) (lt_of_cell x0)).trans x0
      replace x1 := (hb.cell (p := ⟨bx, 1, none⟩) (lt_of_cell x1)).trans x1
      replace g0 := (hb.cell (p := ⟨bg, 0, none⟩) (lt_of_cell g0)).trans g0
      replace gg1 := (hb.cell (p := ⟨bg, 1, none⟩) (lt_of_cell gg1)).trans gg1
      obtain ⟨_, _, _, s0, s1, m0, m1, _, _⟩ := FY.out _ hB33
      clear hb
      have hbb : Below w33.heap.size w33 (w33.alloc (.cells #[.slice A8 t.flash.length c8, .slice D8 t.disk.length d8] 26)) := by (repeat (first | (with_reducible exact Below.refl _ _) | (with_reducible assumption) | (refine Below.setCell ?_ (by first | omega | exact hB.size | exact hb.size | (have h := hB.size; simp; omega) | (have h := hb.size; simp; omega) | (simp; omega) | simp) _) | (refine Below.alloc ?_ (by first | omega | exact hB.size | exact hb.size | (have h := hB.size; simp; omega) | (have h := hb.size; simp; omega) | (simp; omega) | simp) _) | (refine Below.drew ?_)))
      have hq := Row.new w33 #[.slice A8 t.flash.length c8, .slice D8 t.disk.length d8] 26
      have hBW9 := hB33.trans (hbb.mono hB33.size)
      have hzW9 : (w33.alloc (.cells #[.slice A8 t.flash.length c8, .slice D8 t.disk.length d8] 26)).heap.size = w33.heap.size + 1 := by simp
      replace hM := hM.below hbb (Nat.le_refl _)
      replace hO8 := hO8.below hbb (Nat.le_refl _)
      replace x0 := (hbb.cell (p := ⟨bx, 0, none⟩) (lt_of_cell x0)).trans x0
      replace x1 := (hbb.cell (p := ⟨bx, 1, none⟩) (lt_of_cell x1)).trans x1
      replace g0 := (hbb.cell (p := ⟨bg, 0, none⟩) (lt_of_cell g0)).trans g0
      replace gg1 := (hbb.cell (p := ⟨bg, 1, none⟩) (lt_of_cell gg1)).trans gg1
      obtain ⟨W9, hEW9⟩ : ∃ W, w33.alloc (.cells #[.slice A8 t.flash.length c8, .slice D8 t.disk.length d8] 26) = W := ⟨_, rfl⟩
      obtain ⟨bh, hEbh⟩ : ∃ b, w33.heap.size = b := ⟨_, rfl⟩
      rw [hEW9] at hq hBW9 hzW9 hM hO8 x0 x1 g0 gg1
      rw [hEbh] at hq hzW9
      obtain ⟨h0, _⟩ := hq.at0 (j := 0) rfl
      obtain ⟨h1, _⟩ := hq.at0 (j := 1) rfl
      clear hbb hq
      obtain ⟨_, _, _, s0, s1, m0, m1, _, _⟩ := FY.out _ hBW9
      clear hzW9 hO7 hX7
      go_wp2_with fail
      refine (laws_eqStore A8 A0 D8 D0 _ _ _ _ _ _ _ _ t.flash t.flash t.disk t.disk _ rfl rfl rfl rfl HTS.out.1.len HTS.out.1.len HTS.out.1.pages HTS.out.1.pages (by have := HTS.out.2; omega) (by have := HTS.out.2; omega) hO8.ofl.fl (FY.out _ hBW9).2.2.2.2.2.2.2.1 hO8.disk (FY.out _ hBW9).2.2.2.2.2.2.2.2).mono ?_
      rintro e w34 ⟨rfl, hb⟩
      rw [show (decide (t.flash = t.flash) && decide (t.disk = t.disk)) = true from by simp]
      have hs34 := hb.size
      have hB34 := hBW9.trans (hb.mono hBW9.size)
      replace hM := hM.below hb (Nat.le_refl _)
      replace hO8 := hO8.below hb (Nat.le_refl _)
      replace x0 := (hb.cell (p := ⟨bx, 0, none⟩) (lt_of_cell x0)).trans x0
      replace x1 := (hb.cell (p := ⟨bx, 1, none⟩) (lt_of_cell x1)).trans x1
      replace g0 := (hb.cell (p := ⟨bg, 0, none⟩) (lt_of_cell g0)).trans g0
      replace gg1 := (hb.cell (p := ⟨bg, 1, none⟩) (lt_of_cell gg1)).trans gg1
      replace h0 := (hb.cell (p := ⟨bh, 0, none⟩) (lt_of_cell h0)).trans h0
      replace h1 := (hb.cell (p := ⟨bh, 1, none⟩) (lt_of_cell h1)).trans h1
      obtain ⟨_, _, _, s0, s1, m0, m1, _, _⟩ := FY.out _ hB34
      clear hb
      go_wp2_with fail
      refine (laws_heldStore A2 D2 _ _ _ _ t.flash t.disk 1 w7.heap.size w8.heap.size _ rfl rfl HTS.out.1.len HTS.out.1.pages (by have := HTS.out.2; omega) (by omega) (by have := HET.out; omega) hM).mono ?_
      rintro e w35 ⟨rfl, hb⟩
      have hs35 := hb.size
      have hB35 := hB34.trans (hb.mono hB34.size)
      replace hM := hM.below hb (Nat.le_refl _)
      replace hO8 := hO8.below hb (Nat.le_refl _)
      replace x0 := (hb.cell (p := ⟨bx, 0, none⟩) (lt_of_cell x0)).trans x0
      replace x1 := (hb.cell (p := ⟨bx, 1, none⟩) (lt_of_cell x1)).trans x1
      replace g0 := (hb.cell (p := ⟨bg, 0, none⟩) (lt_of_cell g0)).trans g0
      replace gg1 := (hb.cell (p := ⟨bg, 1, none⟩) (lt_of_cell gg1)).trans gg1
      replace h0 := (hb.cell (p := ⟨bh, 0, none⟩) (lt_of_cell h0)).trans h0
      replace h1 := (hb.cell (p := ⟨bh, 1, none⟩) (lt_of_cell h1)).trans h1
      obtain ⟨_, _, _, s0, s1, m0, m1, _, _⟩ := FY.out _ hB35
      clear hb
      have hBf := hBb.trans (hB35.mono hBb.size)
      go_wp2
      go_ret
      exact ⟨rfl, hBf⟩
end Go.Proofs.Ytbekihiiildgmaa
