/- Walks: a law whose argument is a statement's own: FnExactPlayRun. -/
import Derived.Test.YtohkoogmbfaceaaGreatY6
namespace Go.Proofs.YtohkoogmbfaceaaGreat
set_option linter.unusedVariables false
set_option linter.unusedSimpArgs false
open Go.RowKit Go.Maps
set_option maxHeartbeats 8000000
set_option maxRecDepth 100000
theorem Small.end3 {f : List Bk} (h : Small f) {m : Nat} (hm : m ≤ 1048576) : endFl 1 f + m < 1000000000000 * 100 := by
  have h1 := endFl_le 1048576 f 1 (fun b hb => by have := h.2 b hb; omega)
  have h2 := h.1
  omega
theorem runR_small {t : St} {es : List Ev} {ok : Bool} (h : runR es = (t, ok)) : Small t.flash ∧ t.disk.length ≤ 1048576 := by
  unfold runR at h
  split at h
  · cases h
    exact ⟨⟨by simp [st0], by simp [st0]⟩, by simp [st0]⟩
  · cases h
    have hf := (run_run es).ok.fine
    exact ⟨⟨by rw [hf.1.1]; omega, fun b hb => by rw [(hf.1.2 b hb).1]; omega⟩, by rw [hf.2.1]; omega⟩
theorem spec_PlayRun_r {t : St} {es : List Ev} {ok : Bool} (h : runR es = (t, ok)) (V : Option Addr) (cs k : Nat) (w : World) (hk : k = es.length) (hl : es.length < 1000000000000) (hX : Row w V (evs es)) :
    Calls Tryz.prog 5 #[.slice V k cs] w fun e w' => ∃ A' c' D' d', e = .returned (.tuple #[.agg #[.slice A' t.flash.length c', .slice D' t.disk.length d'], .bool ok]) ∧ Fl w' A' t.flash ∧ Row w' D' (ints t.disk) ∧ Below w.heap.size w w' := by
  subst hk
  refine (spec_PlayRun es V cs w hl hX).mono fun e w' q => ?_
  rw [h] at q
  obtain ⟨A', c', D', d', rfl, h1, h2, _, h4⟩ := q
  exact ⟨A', c', D', d', rfl, h1.fl, h2, h4⟩
theorem impl_PlayRun_r {t : St} {es : List Ev} {ok : Bool} (h : runR es = (t, ok)) (V : Option Addr) (cs k : Nat) (w : World) (hk : k = es.length) (hl : es.length < 1000000000000) (hX : Row w V (evs es)) :
    Calls Tryz.prog 7 #[.slice V k cs] w fun e w' => ∃ A' c' D' d', e = .returned (.tuple #[.agg #[.slice A' t.flash.length c', .slice D' t.disk.length d'], .bool ok]) ∧ OSt w' w.heap.size w'.heap.size A' t.flash D' t.disk ∧ Below w.heap.size w w' := by
  subst hk
  refine (impl_PlayRun_own es V cs w hl hX).mono fun e w' q => ?_
  rw [h] at q
  exact q
theorem law_FnExactPlayRun {w : World} (V : Option Addr) (cs : Nat) (es : List Ev) (hn : es.length ≤ 9223372036854775807) (hV : RRow w V (evs es)) :
    Calls Tryz.prog 3 #[.slice V es.length cs] w fun e w' => e = .returned (.bool true) ∧ Below w.heap.size w w' := by
  have HXN := Lib.hid hn
  have hB0 : Below w.heap.size w w := Below.refl _ _
  clear hn
  go_enter Tryz.func3, Tryz.ntmps3
  go_wp2_with fail
  refine (laws_szEventS V es.length cs 1048576 _ (by omega) (by omega) HXN.out).mono ?_
  rintro e w1 ⟨rfl, rfl⟩
  by_cases hsz : down 1048576 es.length < 0
  · go_wp2
    go_ret
    exact ⟨rfl, Below.refl _ _⟩
  · have hel : es.length ≤ 1048576 := by
      unfold down at hsz
      split at hsz <;> omega
    generalize down 1048576 es.length = z at *
    obtain ⟨t, ok, htr⟩ : ∃ t ok, runR es = (t, ok) := ⟨_, _, rfl⟩
    have HTR := Lib.hid htr
    have HTS := Lib.hid (runR_small htr)
    have hkk : (ok != ok) = false := by simp
    clear htr
    go_wp2_with fail
    refine (laws_toEventS V cs es _ hel hV).mono ?_
    rintro e w2 ⟨g2, rfl, _, hg2, hX2, hb⟩
    have hs2 := hb.size
    have hB2 := hB0.trans (hb.mono hB0.size)
    replace hV := hV.below hb (Nat.le_refl _)
    clear hb
    go_wp2_with fail
    refine (spec_PlayRun_r HTR.out (some ⟨g2, 0, none⟩) _ _ _ rfl (by omega) hX2).mono ?_
    rintro e w3 ⟨A0, c0, D0, d0, rfl, hF0, hD0, hb⟩
    have hs3 := hb.size
    have hB3 := hB2.trans (hb.mono hB2.size)
    replace hV := hV.below hb (Nat.le_refl _)
    clear hb
    have hbb : Below w3.heap.size w3 (w3.alloc (.cells #[.slice A0 t.flash.length c0, .slice D0 t.disk.length d0] 27)) := by (repeat (first | (with_reducible exact Below.refl _ _) | (with_reducible assumption) | (refine Below.setCell ?_ (by first | omega | exact hB.size | exact hb.size | (have h := hB.size; simp; omega) | (have h := hb.size; simp; omega) | (simp; omega) | simp) _) | (refine Below.alloc ?_ (by first | omega | exact hB.size | exact hb.size | (have h := hB.size; simp; omega) | (have h := hb.size; simp; omega) | (simp; omega) | simp) _) | (refine Below.drew ?_)))
    have hq := Row.new w3 #[.slice A0 t.flash.length c0, .slice D0 t.disk.length d0] 27
    have hBW3 := hB3.trans (hbb.mono hB3.size)
    have hzW3 : (w3.alloc (.cells #[.slice A0 t.flash.length c0, .slice D0 t.disk.length d0] 27)).heap.size = w3.heap.size + 1 := by simp
    replace hV := hV.below hbb (Nat.le_refl _)
    replace hF0 := hF0.below hbb (Nat.le_refl _)
    replace hD0 := hD0.below hbb (Nat.le_refl _)
    obtain ⟨W3, hEW3⟩ : ∃ W, w3.alloc (.cells #[.slice A0 t.flash.length c0, .slice D0 t.disk.length d0] 27) = W := ⟨_, rfl⟩
    obtain ⟨bw, hEbw⟩ : ∃ b, w3.heap.size = b := ⟨_, rfl⟩
    rw [hEW3] at hq hBW3 hzW3 hV hF0 hD0
    rw [hEbw] at hq hzW3
    obtain ⟨m0, _⟩ := hq.at0 (j := 0) rfl
    obtain ⟨m1, _⟩ := hq.at0 (j := 1) rfl
    clear hbb hq
    have hsW3 := hBW3.size
    have FY := Lib.hid (fun X (h : Below W3.heap.size W3 X) => (⟨hV.below h (Nat.le_refl _), (h.cell (p := ⟨bw, 0, none⟩) (lt_of_cell m0)).trans m0, (h.cell (p := ⟨bw, 1, none⟩) (lt_of_cell m1)).trans m1, hF0.below h (Nat.le_refl _), hD0.below h (Nat.le_refl _)⟩ : RRow X V (evs es) ∧ X.cell? ⟨bw, 0, none⟩ = some (.slice A0 t.flash.length c0) ∧ X.cell? ⟨bw, 1, none⟩ = some (.slice D0 t.disk.length d0) ∧ Fl X A0 t.flash ∧ Row X D0 (ints t.disk)))
    have hBb := hBW3
    have hBz : Below W3.heap.size W3 W3 := Below.refl _ _
    clear hF0 hD0 hV hX2 hBW3 hzW3 hB0
    go_wp2_with fail
    refine (laws_toEventS V cs es _ hel (FY.out _ hBz).1).mono ?_
    rintro e w4 ⟨g4, rfl, hg4, hg4', hX4, hb⟩
    have hs4 := hb.size
    have hB4 := hBz.trans (hb.mono hBz.size)
    obtain ⟨_, m0, m1, _, _⟩ := FY.out _ hB4
    clear hb
    go_wp2_with fail
    refine (impl_PlayRun_r HTR.out (some ⟨g4, 0, none⟩) _ _ _ rfl (by omega) hX4).mono ?_
    rintro e w5 ⟨A2, c2, D2, d2, rfl, hO2, hb⟩
    have hs5 := hb.size
    have hB5 := hB4.trans (hb.mono hB4.size)
    replace hX4 := hX4.below hb (Nat.le_refl _)
    obtain ⟨_, m0, m1, _, _⟩ := FY.out _ hB5
    clear hb
    have hbb : Below w5.heap.size w5 (w5.alloc (.cells #[.slice A2 t.flash.length c2, .slice D2 t.disk.length d2] 27)) := by (repeat (first | (with_reducible exact Below.refl _ _) | (with_reducible assumption) | (refine Below.setCell ?_ (by first | omega | exact hB.size | exact hb.size | (have h := hB.size; simp; omega) | (have h := hb.size; simp; omega) | (simp; omega) | simp) _) | (refine Below.alloc ?_ (by first | omega | exact hB.size | exact hb.size | (have h := hB.size; simp; omega) | (have h := hb.size; simp; omega) | (simp; omega) | simp) _) | (refine Below.drew ?_)))
    have hq := Row.new w5 #[.slice A2 t.flash.length c2, .slice D2 t.disk.length d2] 27
    have hBW5 := hB5.trans (hbb.mono hB5.size)
    have hzW5 : (w5.alloc (.cells #[.slice A2 t.flash.length c2, .slice D2 t.disk.length d2] 27)).heap.size = w5.heap.size + 1 := by simp
    replace hX4 := hX4.below hbb (Nat.le_refl _)
    replace hO2 := hO2.below hbb (Nat.le_refl _)
    obtain ⟨W5, hEW5⟩ : ∃ W, w5.alloc (.cells #[.slice A2 t.flash.length c2, .slice D2 t.disk.length d2] 27) = W := ⟨_, rfl⟩
    obtain ⟨bg, hEbg⟩ : ∃ b, w5.heap.size = b := ⟨_, rfl⟩
    rw [hEW5] at hq hBW5 hzW5 hX4 hO2
    rw [hEbg] at hq hzW5
    obtain ⟨g0, _⟩ := hq.at0 (j := 0) rfl
    obtain ⟨g1, _⟩ := hq.at0 (j := 1) rfl
    clear hbb hq
    obtain ⟨_, m0, m1, _, _⟩ := FY.out _ hBW5
    have hq5 : w5.heap.size ≤ W5.heap.size := by omega
    have hgb : g4 < bg := by omega
    have hbg5 : w5.heap.size ≤ bg := by omega
    clear hzW5
    go_wp2_with fail
    refine (laws_eqStore A2 A0 D2 D0 _ _ _ _ _ _ _ _ t.flash t.flash t.disk t.disk _ rfl rfl rfl rfl HTS.out.1.len HTS.out.1.len HTS.out.1.pages HTS.out.1.pages (by have := HTS.out.2; omega) (by have := HTS.out.2; omega) hO2.ofl.fl (FY.out _ hBW5).2.2.2.1 hO2.disk (FY.out _ hBW5).2.2.2.2).mono ?_
    rintro e w6 ⟨rfl, hb⟩
    rw [show (decide (t.flash = t.flash) && decide (t.disk = t.disk)) = true from by simp]
    have hs6 := hb.size
    have hB6 := hBW5.trans (hb.mono hBW5.size)
    replace hX4 := hX4.below hb (Nat.le_refl _)
    replace hO2 := hO2.below hb (Nat.le_refl _)
    replace g0 := (hb.cell (p := ⟨bg, 0, none⟩) (lt_of_cell g0)).trans g0
    replace g1 := (hb.cell (p := ⟨bg, 1, none⟩) (lt_of_cell g1)).trans g1
    obtain ⟨_, m0, m1, _, _⟩ := FY.out _ hB6
    clear hb
    go_wp2_with fail
    refine (laws_toEventS V cs es _ hel (FY.out _ hB6).1).mono ?_
    rintro e w7 ⟨g7, rfl, _, _, hX7, hb⟩
    have hs7 := hb.size
    have hB7 := hB6.trans (hb.mono hB6.size)
    replace hX4 := hX4.below hb (Nat.le_refl _)
    replace hO2 := hO2.below hb (Nat.le_refl _)
    replace g0 := (hb.cell (p := ⟨bg, 0, none⟩) (lt_of_cell g0)).trans g0
    replace g1 := (hb.cell (p := ⟨bg, 1, none⟩) (lt_of_cell g1)).trans g1
    obtain ⟨_, m0, m1, _, _⟩ := FY.out _ hB7
    clear hb
    go_wp2_with fail
    refine (laws_eqEventS (some ⟨g4, 0, none⟩) (some ⟨g7, 0, none⟩) _ _ _ _ es es _ rfl rfl (by omega) (by omega) hX4 hX7).mono ?_
    rintro e w8 ⟨rfl, hb⟩
    rw [show decide (es = es) = true from by simp]
    have hs8 := hb.size
    have hB8 := hB7.trans (hb.mono hB7.size)
    replace hX4 := hX4.below hb (Nat.le_refl _)
    replace hO2 := hO2.below hb (Nat.le_refl _)
    replace hX7 := hX7.below hb (Nat.le_refl _)
    replace g0 := (hb.cell (p := ⟨bg, 0, none⟩) (lt_of_cell g0)).trans g0
    replace g1 := (hb.cell (p := ⟨bg, 1, none⟩) (lt_of_cell g1)).trans g1
    obtain ⟨_, m0, m1, _, _⟩ := FY.out _ hB8
    clear hb
    go_wp2_with fail
    refine (laws_markEventS (some ⟨g4, 0, none⟩) _ _ es 1 _ rfl (by omega) (by omega) (by omega) hX4).mono ?_
    rintro e w9 ⟨rfl, hA⟩
    have hA' : Agr (fun b => g4 ≤ b ∧ b < g4 + 1) w8 w9 := hA.mono (fun b hb => by rw [blk_some] at hb; omega)
    have hs9 := hA'.size
    have hsB9 := hB8.size
    have hB9 := hB8.trans (hA'.below (B := W3.heap.size) hsB9 (fun i hi => by omega))
    replace g0 := (hA'.cell (b := bg) (lt_of_cell g0) (by omega) 0).trans g0
    replace g1 := (hA'.cell (b := bg) (lt_of_cell g1) (by omega) 1).trans g1
    obtain ⟨_, m0, m1, _, _⟩ := FY.out _ hB9
    replace hO2 := hO2.far hA' (.inr (by omega))
    have hk0 : ¬ ((1 : Int) + 5 * (es.length : Int) < 0) := by omega
    clear hA hA' hX4
    go_wp2_with fail
    refine (laws_eqStore A2 A0 D2 D0 _ _ _ _ _ _ _ _ t.flash t.flash t.disk t.disk _ rfl rfl rfl rfl HTS.out.1.len HTS.out.1.len HTS.out.1.pages HTS.out.1.pages (by have := HTS.out.2; omega) (by have := HTS.out.2; omega) hO2.ofl.fl (FY.out _ hB9).2.2.2.1 hO2.disk (FY.out _ hB9).2.2.2.2).mono ?_
    rintro e w10 ⟨rfl, hb⟩
    rw [show (decide (t.flash = t.flash) && decide (t.disk = t.disk)) = true from by simp]
    have hs10 := hb.size
    have hB10 := hB9.trans (hb.mono hB9.size)
    replace hO2 := hO2.below hb (Nat.le_refl _)
    replace g0 := (hb.cell (p := ⟨bg, 0, none⟩) (lt_of_cell g0)).trans g0
    replace g1 := (hb.cell (p := ⟨bg, 1, none⟩) (lt_of_cell g1)).trans g1
    obtain ⟨_, m0, m1, _, _⟩ := FY.out _ hB10
    clear hb
    have HET := Lib.hid (HTS.out.1.end3 HTS.out.2)
    have HGT := endFl_ge t.flash 1
    go_wp2_with fail
    refine (laws_markStore A2 D2 _ _ _ _ t.flash t.disk 1 w4.heap.size w5.heap.size _ rfl rfl HTS.out.1.len HTS.out.1.pages (by have := HTS.out.2; omega) (by omega) (by have := HET.out; omega) (by omega) hO2).mono ?_
    rintro e w11 ⟨rfl, hM, hA⟩
    have hs11 := hA.size
    have hsB11 := hB10.size
    have hB11 := hB10.trans (hA.below (B := W3.heap.size) hsB11 (fun i hi => by omega))
    replace g0 := (hA.cell (b := bg) (lt_of_cell g0) (by omega) 0).trans g0
    replace g1 := (hA.cell (b := bg) (lt_of_cell g1) (by omega) 1).trans g1
    obtain ⟨_, m0, m1, _, _⟩ := FY.out _ hB11
    clear hA hO2
    have hk1 : ¬ (endFl 1 t.flash + (t.disk.length : Int) < 0) := by omega
    go_wp2_with fail
    refine (laws_heldStore A2 D2 _ _ _ _ t.flash t.disk 1 w4.heap.size w5.heap.size _ rfl rfl HTS.out.1.len HTS.out.1.pages (by have := HTS.out.2; omega) (by omega) (by have := HET.out; omega) hM).mono ?_
    rintro e w12 ⟨rfl, hb⟩
    have hs12 := hb.size
    have hB12 := hB11.trans (hb.mono hB11.size)
    replace hM := hM.below hb (Nat.le_refl _)
    replace g0 := (hb.cell (p := ⟨bg, 0, none⟩) (lt_of_cell g0)).trans g0
    replace g1 := (hb.cell (p := ⟨bg, 1, none⟩) (lt_of_cell g1)).trans g1
    obtain ⟨_, m0, m1, _, _⟩ := FY.out _ hB12
    clear hb
    go_wp2_with fail
    refine (laws_toEventS V cs es _ hel (FY.out _ hB12).1).mono ?_
    rintro e w13 ⟨g13, rfl, _, _, hX13, hb⟩
    have hs13 := hb.size
    have hB13 := hB12.trans (hb.mono hB12.size)
    replace hM := hM.below hb (Nat.le_refl _)
    replace g0 := (hb.cell (p := ⟨bg, 0, none⟩) (lt_of_cell g0)).trans g0
    replace g1 := (hb.cell (p := ⟨bg, 1, none⟩) (lt_of_cell g1)).trans g1
    obtain ⟨_, m0, m1, _, _⟩ := FY.out _ hB13
    clear hb
    go_wp2_with fail
    refine (impl_PlayRun_r HTR.out (some ⟨g13, 0, none⟩) _ _ _ rfl (by omega) hX13).mono ?_
    rintro e w14 ⟨A8, c8, D8, d8, rfl, hO8, hb⟩
    have hs14 := hb.size
    have hB14 := hB13.trans (hb.mono hB13.size)
    replace hM := hM.below hb (Nat.le_refl _)
    replace g0 := (hb.cell (p := ⟨bg, 0, none⟩) (lt_of_cell g0)).trans g0
    replace g1 := (hb.cell (p := ⟨bg, 1, none⟩) (lt_of_cell g1)).trans g1
    obtain ⟨_, m0, m1, _, _⟩ := FY.out _ hB14
    clear hb
    have hbb : Below w14.heap.size w14 (w14.alloc (.cells #[.slice A8 t.flash.length c8, .slice D8 t.disk.length d8] 27)) := by (repeat (first | (with_reducible exact Below.refl _ _) | (with_reducible assumption) | (refine Below.setCell ?_ (by first | omega | exact hB.size | exact hb.size | (have h := hB.size; simp; omega) | (have h := hb.size; simp; omega) | (simp; omega) | simp) _) | (refine Below.alloc ?_ (by first | omega | exact hB.size | exact hb.size | (have h := hB.size; simp; omega) | (have h := hb.size; simp; omega) | (simp; omega) | simp) _) | (refine Below.drew ?_)))
    have hq := Row.new w14 #[.slice A8 t.flash.length c8, .slice D8 t.disk.length d8] 27
    have hBW9 := hB14.trans (hbb.mono hB14.size)
    have hzW9 : (w14.alloc (.cells #[.slice A8 t.flash.length c8, .slice D8 t.disk.length d8] 27)).heap.size = w14.heap.size + 1 := by simp
    replace hM := hM.below hbb (Nat.le_refl _)
    replace hO8 := hO8.below hbb (Nat.le_refl _)
    replace g0 := (hbb.cell (p := ⟨bg, 0, none⟩) (lt_of_cell g0)).trans g0
    replace g1 := (hbb.cell (p := ⟨bg, 1, none⟩) (lt_of_cell g1)).trans g1
    obtain ⟨W9, hEW9⟩ : ∃ W, w14.alloc (.cells #[.slice A8 t.flash.length c8, .slice D8 t.disk.length d8] 27) = W := ⟨_, rfl⟩
    obtain ⟨bh, hEbh⟩ : ∃ b, w14.heap.size = b := ⟨_, rfl⟩
    rw [hEW9] at hq hBW9 hzW9 hM hO8 g0 g1
    rw [hEbh] at hq hzW9
    obtain ⟨h0, _⟩ := hq.at0 (j := 0) rfl
    obtain ⟨h1, _⟩ := hq.at0 (j := 1) rfl
    clear hbb hq
    obtain ⟨_, m0, m1, _, _⟩ := FY.out _ hBW9
    clear hzW9 hX13
    go_wp2_with fail
    refine (laws_eqStore A8 A0 D8 D0 _ _ _ _ _ _ _ _ t.flash t.flash t.disk t.disk _ rfl rfl rfl rfl HTS.out.1.len HTS.out.1.len HTS.out.1.pages HTS.out.1.pages (by have := HTS.out.2; omega) (by have := HTS.out.2; omega) hO8.ofl.fl (FY.out _ hBW9).2.2.2.1 hO8.disk (FY.out _ hBW9).2.2.2.2).mono ?_
    rintro e w15 ⟨rfl, hb⟩
    rw [show (decide (t.flash = t.flash) && decide (t.disk = t.disk)) = true from by simp]
    have hs15 := hb.size
    have hB15 := hBW9.trans (hb.mono hBW9.size)
    replace hM := hM.below hb (Nat.le_refl _)
    replace hO8 := hO8.below hb (Nat.le_refl _)
    replace g0 := (hb.cell (p := ⟨bg, 0, none⟩) (lt_of_cell g0)).trans g0
    replace g1 := (hb.cell (p := ⟨bg, 1, none⟩) (lt_of_cell g1)).trans g1
    replace h0 := (hb.cell (p := ⟨bh, 0, none⟩) (lt_of_cell h0)).trans h0
    replace h1 := (hb.cell (p := ⟨bh, 1, none⟩) (lt_of_cell h1)).trans h1
    obtain ⟨_, m0, m1, _, _⟩ := FY.out _ hB15
    clear hb
    go_wp2_with fail
    refine (laws_heldStore A2 D2 _ _ _ _ t.flash t.disk 1 w4.heap.size w5.heap.size _ rfl rfl HTS.out.1.len HTS.out.1.pages (by have := HTS.out.2; omega) (by omega) (by have := HET.out; omega) hM).mono ?_
    rintro e w16 ⟨rfl, hb⟩
    have hs16 := hb.size
    have hB16 := hB15.trans (hb.mono hB15.size)
    replace hM := hM.below hb (Nat.le_refl _)
    replace hO8 := hO8.below hb (Nat.le_refl _)
    replace g0 := (hb.cell (p := ⟨bg, 0, none⟩) (lt_of_cell g0)).trans g0
    replace g1 := (hb.cell (p := ⟨bg, 1, none⟩) (lt_of_cell g1)).trans g1
    replace h0 := (hb.cell (p := ⟨bh, 0, none⟩) (lt_of_cell h0)).trans h0
    replace h1 := (hb.cell (p := ⟨bh, 1, none⟩) (lt_of_cell h1)).trans h1
    obtain ⟨_, m0, m1, _, _⟩ := FY.out _ hB16
    clear hb
    have hBf := hBb.trans (hB16.mono hBb.size)
    go_wp2
    go_ret
    exact ⟨rfl, hBf⟩
end Go.Proofs.YtohkoogmbfaceaaGreat
