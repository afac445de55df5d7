/- Walks: the eldest block, the block to write on. Walks: the block to write on. -/
import Derived.Test.YtfkjhnfbajflaaaG3
import Derived.Deep.RegionWith
namespace Go.Proofs.Ytfkjhnfbajflaaa
set_option linter.unusedVariables false
set_option linter.unusedSimpArgs false
open Go.RowKit Go.Maps
set_option maxHeartbeats 400000
set_option maxRecDepth 100000 in
set_option maxHeartbeats 8000000 in
theorem spec_l3Old (f : List Bk) (A : Option Addr) (c : Nat) (w : World) (hl : f.length < 1000000000000) (h0 : 0 < f.length) (hp : ∀ b ∈ f, b.pages.length < 1000000000000) (hF : Fl w A f) :
    Calls Try.prog 86 #[.slice A f.length c] w fun e w' => e = .returned (.int .i64 (old f)) ∧ old f < f.length ∧ Below w.heap.size w w' := by
  have HP := Lib.hid hp
  have hT : Hid (old f = oldGo f 1 0 (f.drop 1)) := rfl
  clear hp
  go_enter Try.func86, Try.ntmps86
  go_wp2
  go_loopw [3, 4] (fun q i wr => ∃ (k m : Nat), k ≤ f.length ∧ 1 ≤ k ∧ i = .int .i64 k ∧ q = .int .i64 m ∧ m < f.length ∧ Below w.heap.size w wr ∧ Hid (old f = oldGo f k m (f.drop k))) (fun _ i _ => f.length - (intOf i).toNat)
  case atStart => exact ⟨1, 0, by omega, by omega, rfl, rfl, h0, Below.refl _ _, hT⟩
  case round =>
    clear hT
    obtain ⟨k, m, hk, hk0, rfl, rfl, hm, hb, hT⟩ := hrel
    by_cases hlt : k < f.length
    · obtain ⟨B, hB⟩ := get_some hlt
      obtain ⟨C, hC⟩ := get_some hm
      have hFk := hF.below hb (Nat.le_refl _)
      obtain ⟨hs, hBk⟩ := hFk
      obtain ⟨g, o, rfl⟩ := hBk.addr (by rintro rfl; simp at hlt)
      obtain ⟨⟨Ap, cp⟩, hx1, z0, z1, _, _, hR, _⟩ := hBk.at_ hB
      obtain ⟨⟨Aq, cq⟩, hx2, y0, y1, _, _, hR2, _⟩ := hBk.at_ hC
      have hd := Lib.hid (drop_cons hB)
      have hpl := HP.out B (List.mem_of_getElem? hB)
      have hpl2 := HP.out C (List.mem_of_getElem? hC)
      have hk1 : (k : Int) < f.length := by omega
      have hm1 : (m : Int) < f.length := by omega
      have hgd : f.getD m zbk = C := by rw [List.getD_eq_getElem?_getD, hC]; rfl
      have hT1 : Hid (old f = if most B < most C then oldGo f (k + 1) k (f.drop (k + 1)) else oldGo f (k + 1) m (f.drop (k + 1))) := by rw [Hid, hT.out, hd.out, oldGo, hgd]
      have HB := Lib.hid hB
      have HC := Lib.hid hC
      clear hB hC hT hd hgd hx1 hx2
      go_wp2
      by_cases hxy : most B < most C
      · have hT2 : Hid (old f = oldGo f (k + 1) k (f.drop (k + 1))) := by rw [Hid, hT1.out, if_pos hxy]
        clear hT1
        go_region_with (first | (go_at_call 46; (first | with_reducible refine (spec_l3Most B Ap cp _ hpl (by first | with_reducible exact hR | with_reducible exact hR.drew)).mono ?_ | with_reducible refine (spec_l3Most C Aq cq _ hpl2 (by first | with_reducible exact hR2 | with_reducible exact hR2.drew)).mono ?_); rintro e w1 ⟨rfl, hb1⟩; (first | (with_reducible replace hb1 := undrew hb1) | skip); replace hb := hb.trans (hb1.mono hb.size); have kk := (bcell hb1).1; replace z0 := (kk _ _ (lt_of_cell z0)).trans z0; replace z1 := (kk _ _ (lt_of_cell z1)).trans z1; replace y0 := (kk _ _ (lt_of_cell y0)).trans y0; replace y1 := (kk _ _ (lt_of_cell y1)).trans y1; replace hR := hR.below hb1 (Nat.le_refl _); replace hR2 := hR2.below hb1 (Nat.le_refl _); clear hb1 kk))
        all_goals
          go_wp2
          go_roundw
          (case rel => exact ⟨k + 1, k, by omega, by omega, by go_num, rfl, hlt, hb, hT2⟩)
          (case measure => simp [intOf]; omega)
      · have hT2 : Hid (old f = oldGo f (k + 1) m (f.drop (k + 1))) := by rw [Hid, hT1.out, if_neg hxy]
        clear hT1
        go_region_with (first | (go_at_call 46; (first | with_reducible refine (spec_l3Most B Ap cp _ hpl (by first | with_reducible exact hR | with_reducible exact hR.drew)).mono ?_ | with_reducible refine (spec_l3Most C Aq cq _ hpl2 (by first | with_reducible exact hR2 | with_reducible exact hR2.drew)).mono ?_); rintro e w1 ⟨rfl, hb1⟩; (first | (with_reducible replace hb1 := undrew hb1) | skip); replace hb := hb.trans (hb1.mono hb.size); have kk := (bcell hb1).1; replace z0 := (kk _ _ (lt_of_cell z0)).trans z0; replace z1 := (kk _ _ (lt_of_cell z1)).trans z1; replace y0 := (kk _ _ (lt_of_cell y0)).trans y0; replace y1 := (kk _ _ (lt_of_cell y1)).trans y1; replace hR := hR.below hb1 (Nat.le_refl _); replace hR2 := hR2.below hb1 (Nat.le_refl _); clear hb1 kk))
        all_goals
          go_wp2
          go_roundw
          (case rel => exact ⟨k + 1, m, by omega, by omega, by go_num, rfl, hm, hb, hT2⟩)
          (case measure => simp [intOf]; omega)
    · obtain rfl : k = f.length := by omega
      go_wp2
      go_ret
      have hfin : old f = m := by rw [hT.out, List.drop_of_length_le (Nat.le_refl _)]; rfl
      exact ⟨ret_int (by rw [hfin]), by rw [hfin]; exact hm, hb⟩
end Go.Proofs.Ytfkjhnfbajflaaa
namespace Go.Proofs.Ytfkjhnfbajflaaa
set_option linter.unusedVariables false
set_option linter.unusedSimpArgs false
open Go.RowKit Go.Maps
set_option maxHeartbeats 400000
theorem below_drewN {B : Nat} {w w' : World} (h : Below B w w') (n : Nat) : Below B w (w'.drewN n) := ⟨h.os, h.tape, h.output, h.size, h.block⟩
theorem Bks.worn {w : World} {g o i : Nat} {f : List Bk} {hs : List (Option Addr × Nat)} {b : Bk} (h : Bks w (some ⟨g, o, none⟩) f hs) (hi : f[i]? = some b) : w.cell? ⟨g, o + i * 2 + 1, none⟩ = some (.int .i64 b.worn) := by
  obtain ⟨_, _, _, z1, _⟩ := h.at_ hi; exact z1
set_option maxRecDepth 100000 in
set_option maxHeartbeats 4000000 in
theorem spec_l3Open (f : List Bk) (A : Option Addr) (c : Nat) (w : World) (hl : f.length < 1000000000000) (hp : ∀ b ∈ f, b.pages.length < 1000000000000) (hF : Fl w A f) :
    Calls Try.prog 35 #[.slice A f.length c] w fun e w' => e = .returned (.tuple #[.int .i64 (openB f).1, .bool (openB f).2]) ∧ 0 ≤ (openB f).1 ∧ (f ≠ [] → (openB f).1 < f.length) ∧ Below w.heap.size w w' := by
  have HP := Lib.hid hp
  have hT : Hid (openB f = openGo f 0 (-1) (f.drop 0)) := rfl
  clear hp
  go_enter Try.func35, Try.ntmps35
  go_wp2
  go_loopw [4, 5] (fun q i wr => ∃ (k : Nat) (m : Int), k ≤ f.length ∧ i = .int .i64 k ∧ q = .int .i64 m ∧ -1 ≤ m ∧ m < f.length ∧ Below w.heap.size w wr ∧ Hid (openB f = openGo f k m (f.drop k))) (fun _ i _ => f.length - (intOf i).toNat)
  case atStart => exact ⟨0, -1, by omega, rfl, rfl, by omega, by omega, Below.refl _ _, hT⟩
  case round =>
    clear hT
    obtain ⟨k, m, hk, rfl, rfl, hm0, hm1, hb, hT⟩ := hrel
    by_cases hlt : k < f.length
    · obtain ⟨B, hB⟩ := get_some hlt
      have hFk := hF.below hb (Nat.le_refl _)
      obtain ⟨hs, hBk⟩ := hFk
      obtain ⟨g, o, rfl⟩ := hBk.addr (by rintro rfl; simp at hlt)
      obtain ⟨⟨Ap, cp⟩, _, z0, z1, _, _, hR, _⟩ := hBk.at_ hB
      have hd := Lib.hid (drop_cons hB)
      have hpl := HP.out B (List.mem_of_getElem? hB)
      have hk1 : (k : Int) < f.length := by omega
      have hT1 : Hid (openB f = if 0 < clean B ∧ clean B < 4 then ((k : Int), true) else if 0 < clean B ∧ (m < 0 ∨ B.worn < (f.getD m.toNat zbk).worn) then openGo f (k + 1) k (f.drop (k + 1)) else openGo f (k + 1) m (f.drop (k + 1))) := by rw [Hid, hT.out, hd.out, openGo]
      have HB := Lib.hid hB
      clear hB hT hd
      go_wp2_with fail
      refine (spec_l2Clean B Ap cp _ hpl hR).mono ?_
      rintro e w1 ⟨rfl, hb1⟩
      have hb2 := hb.trans (hb1.mono hb.size)
      have hBk1 := hBk.below hb1 (Nat.le_refl _)
      replace z1 := hBk1.worn HB.out
      have hmx : ∀ m' : Nat, m = m' → w1.cell? ⟨g, o + m' * 2 + 1, none⟩ = some (.int .i64 (f.getD m.toNat zbk).worn) := fun m' e => by
        subst e
        obtain ⟨C, hC⟩ := get_some (l := f) (k := m') (by omega)
        have := hBk1.worn hC
        rw [this, Int.toNat_natCast, List.getD_eq_getElem?_getD, hC]; rfl
      clear hb hb1 z0 hR
      generalize clean B = x at *
      by_cases h1 : 0 < x
      · have h1' : (0 : Int) < x := by omega
        by_cases h2 : x < 4
        · have hfin : Hid (openB f = ((k : Int), true)) := by rw [Hid, hT1.out, if_pos ⟨h1, h2⟩]
          have h2' : (x : Int) < 4 := by omega
          clear hT1
          go_wp2
          go_ret2
          rw [hfin.out]
          exact ⟨rfl, by simp, fun _ => hk1, hb2⟩
        · have h2' : (4 : Int) ≤ x := by omega
          by_cases h3 : m < 0
          · have hT2 : Hid (openB f = openGo f (k + 1) k (f.drop (k + 1))) := by rw [Hid, hT1.out, if_neg (fun h => h2 h.2), if_pos ⟨h1, .inl h3⟩]
            clear hT1
            go_wp2
            go_quiet (fail)
            go_wp2
            go_roundw
            case rel => exact ⟨k + 1, k, by omega, by go_num, rfl, by omega, hk1, below_drewN hb2 _, hT2⟩
            case measure => simp [intOf]; omega
          · obtain ⟨m', rfl⟩ := Int.eq_ofNat_of_zero_le (show 0 ≤ m by omega)
            have hmc := hmx m' rfl
            have hT1' : Hid (openB f = if B.worn < (f.getD m' zbk).worn then openGo f (k + 1) k (f.drop (k + 1)) else openGo f (k + 1) m' (f.drop (k + 1))) := by
              rw [Hid, hT1.out, if_neg (fun h => h2 h.2), Int.toNat_natCast]
              by_cases h4 : B.worn < (f.getD m' zbk).worn
              · rw [if_pos ⟨h1, .inr h4⟩, if_pos h4]
              · rw [if_neg (by intro h; rcases h.2 with h | h; omega; exact h4 h), if_neg h4]
            rw [Int.toNat_natCast] at hmc
            clear hT1 hmx
            generalize (f.getD m' zbk).worn = y at *
            by_cases h4 : B.worn < y
            · have hT2 : Hid (openB f = openGo f (k + 1) k (f.drop (k + 1))) := by rw [Hid, hT1'.out, if_pos h4]
              clear hT1'
              go_wp2
              go_quiet (fail)
              go_wp2
              go_roundw
              case rel => exact ⟨k + 1, k, by omega, by go_num, rfl, by omega, hk1, below_drewN hb2 _, hT2⟩
              case measure => simp [intOf]; omega
            · have hT2 : Hid (openB f = openGo f (k + 1) m' (f.drop (k + 1))) := by rw [Hid, hT1'.out, if_neg h4]
              clear hT1'
              go_wp2
              go_quiet (fail)
              go_wp2
              go_roundw
              case rel => exact ⟨k + 1, m', by omega, by go_num, rfl, by omega, hm1, below_drewN hb2 _, hT2⟩
              case measure => simp [intOf]; omega
      · obtain rfl : x = 0 := by omega
        have hT2 : Hid (openB f = openGo f (k + 1) m (f.drop (k + 1))) := by rw [Hid, hT1.out, if_neg (fun h => h1 h.1), if_neg (fun h => h1 h.1)]
        clear hT1
        go_wp2
        go_quiet (fail)
        go_wp2
        go_roundw
        case rel => exact ⟨k + 1, m, by omega, by go_num, rfl, by omega, hm1, below_drewN hb2 _, hT2⟩
        case measure => simp [intOf]; omega
    · obtain rfl : k = f.length := by omega
      have hfin : Hid (openB f = (max m 0, decide (0 ≤ m))) := by rw [Hid, hT.out, List.drop_of_length_le (Nat.le_refl _)]; rfl
      by_cases hm : m < 0
      · have hm' : ¬ 0 ≤ m := by omega
        go_wp2
        go_ret2
        rw [hfin.out]
        refine ⟨?_, by simp; omega, fun hne => ?_, hb⟩
        · simp [hm']; omega
        · have : 0 < f.length := List.length_pos_iff.2 hne
          simp; omega
      · have hm' : 0 ≤ m := by omega
        go_wp2
        all_goals go_ret2
        all_goals rw [hfin.out]
        all_goals refine ⟨?_, by simp; omega, fun hne => ?_, hb⟩
        all_goals first
          | (have : 0 < f.length := List.length_pos_iff.2 hne; simp; omega)
          | (simp [hm']; omega)
end Go.Proofs.Ytfkjhnfbajflaaa
