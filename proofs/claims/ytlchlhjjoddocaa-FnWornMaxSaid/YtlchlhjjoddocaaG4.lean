/- Walks: the eldest block, the block to write on. -/
import Derived.Test.YtlchlhjjoddocaaG3
import Derived.Deep.RegionWith
namespace Go.Proofs.Ytlchlhjjoddocaa
set_option linter.unusedVariables false
set_option linter.unusedSimpArgs false
open Go.RowKit Go.Maps
set_option maxHeartbeats 400000
set_option maxRecDepth 100000 in
set_option maxHeartbeats 8000000 in
theorem spec_l3Old (f : List Bk) (A : Option Addr) (c : Nat) (w : World) (hl : f.length < 1000000000000) (h0 : 0 < f.length) (hp : ∀ b ∈ f, b.pages.length < 1000000000000) (hF : Fl w A f) :
    Calls Try.prog 76 #[.slice A f.length c] w fun e w' => e = .returned (.int .i64 (old f)) ∧ old f < f.length ∧ Below w.heap.size w w' := by
  have HP := Lib.hid hp
  have hT : Hid (old f = oldGo f 1 0 (f.drop 1)) := rfl
  clear hp
  go_enter Try.func76, Try.ntmps76
  go_wp2
  go_loopw [3, 4] (fun q i wr => ∃ (k m : Nat), k ≤ f.length ∧ 1 ≤ k ∧ i = .int .i64 k ∧ q = .int .i64 m ∧ m < f.length ∧ Below w.heap.size w wr ∧ Hid (old f = oldGo f k m (f.drop k))) (fun _ i _ => f.length - (intOf i).toNat)
  case atStart => exact ⟨1, 0, by omega, by omega, rfl, rfl, h0, Below.refl _ _, hT⟩
  case round =>
    clear hT
    obtain ⟨k, m, hk, hk0, rfl, rfl, hm, hb, hT⟩ := hrel
    by_cases hlt : k < f.length
    · obtain ⟨B, hB⟩ := get_some hlt
      obtain ⟨C, hC⟩ := get_some hm
      have hFk := hF.below hb (Nat.le_refl _)
      obtain ⟨hs, hBk⟩ := hFk
      obtain ⟨g, o, rfl⟩ := hBk.addr (by rintro rfl; simp at hlt)
      obtain ⟨⟨Ap, cp⟩, hx1, z0, z1, _, _, hR, _⟩ := hBk.at_ hB
      obtain ⟨⟨Aq, cq⟩, hx2, y0, y1, _, _, hR2, _⟩ := hBk.at_ hC
      have hd := Lib.hid (drop_cons hB)
      have hpl := HP.out B (List.mem_of_getElem? hB)
      have hpl2 := HP.out C (List.mem_of_getElem? hC)
      have hk1 : (k : Int) < f.length := by omega
      have hm1 : (m : Int) < f.length := by omega
      have hgd : f.getD m zbk = C := by rw [List.getD_eq_getElem?_getD, hC]; rfl
      have hT1 : Hid (old f = if most B < most C then oldGo f (k + 1) k (f.drop (k + 1)) else oldGo f (k + 1) m (f.drop (k + 1))) := by rw [Hid, hT.out, hd.out, oldGo, hgd]
      have HB := Lib.hid hB
      have HC := Lib.hid hC
      clear hB hC hT hd hgd hx1 hx2
      go_wp2
      by_cases hxy : most B < most C
      · have hT2 : Hid (old f = oldGo f (k + 1) k (f.drop (k + 1))) := by rw [Hid, hT1.out, if_pos hxy]
        clear hT1
        go_region_with (first | (go_at_call 51; (first | with_reducible refine (spec_l3Most B Ap cp _ hpl (by first | with_reducible exact hR | with_reducible exact hR.drew)).mono ?_ | with_reducible refine (spec_l3Most C Aq cq _ hpl2 (by first | with_reducible exact hR2 | with_reducible exact hR2.drew)).mono ?_); rintro e w1 ⟨rfl, hb1⟩; (first | (with_reducible replace hb1 := undrew hb1) | skip); replace hb := hb.trans (hb1.mono hb.size); have kk := (bcell hb1).1; replace z0 := (kk _ _ (lt_of_cell z0)).trans z0; replace z1 := (kk _ _ (lt_of_cell z1)).trans z1; replace y0 := (kk _ _ (lt_of_cell y0)).trans y0; replace y1 := (kk _ _ (lt_of_cell y1)).trans y1; replace hR := hR.below hb1 (Nat.le_refl _); replace hR2 := hR2.below hb1 (Nat.le_refl _); clear hb1 kk))
        all_goals
          go_wp2
          go_roundw
          (case rel => exact ⟨k + 1, k, by omega, by omega, by go_num, rfl, hlt, hb, hT2⟩)
          (case measure => simp [intOf]; omega)
      · have hT2 : Hid (old f = oldGo f (k + 1) m (f.drop (k + 1))) := by rw [Hid, hT1.out, if_neg hxy]
        clear hT1
        go_region_with (first | (go_at_call 51; (first | with_reducible refine (spec_l3Most B Ap cp _ hpl (by first | with_reducible exact hR | with_reducible exact hR.drew)).mono ?_ | with_reducible refine (spec_l3Most C Aq cq _ hpl2 (by first | with_reducible exact hR2 | with_reducible exact hR2.drew)).mono ?_); rintro e w1 ⟨rfl, hb1⟩; (first | (with_reducible replace hb1 := undrew hb1) | skip); replace hb := hb.trans (hb1.mono hb.size); have kk := (bcell hb1).1; replace z0 := (kk _ _ (lt_of_cell z0)).trans z0; replace z1 := (kk _ _ (lt_of_cell z1)).trans z1; replace y0 := (kk _ _ (lt_of_cell y0)).trans y0; replace y1 := (kk _ _ (lt_of_cell y1)).trans y1; replace hR := hR.below hb1 (Nat.le_refl _); replace hR2 := hR2.below hb1 (Nat.le_refl _); clear hb1 kk))
        all_goals
          go_wp2
          go_roundw
          (case rel => exact ⟨k + 1, m, by omega, by omega, by go_num, rfl, hm, hb, hT2⟩)
          (case measure => simp [intOf]; omega)
    · obtain rfl : k = f.length := by omega
      go_wp2
      go_ret
      have hfin : old f = m := by rw [hT.out, List.drop_of_length_le (Nat.le_refl _)]; rfl
      exact ⟨ret_int (by rw [hfin]), by rw [hfin]; exact hm, hb⟩
end Go.Proofs.Ytlchlhjjoddocaa
