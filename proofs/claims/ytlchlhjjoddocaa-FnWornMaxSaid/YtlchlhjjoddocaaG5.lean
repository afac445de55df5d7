/- Walks: the block to write on. -/
import Derived.Test.YtlchlhjjoddocaaG3
namespace Go.Proofs.Ytlchlhjjoddocaa
set_option linter.unusedVariables false
set_option linter.unusedSimpArgs false
open Go.RowKit Go.Maps
set_option maxHeartbeats 400000
theorem below_drewN {B : Nat} {w w' : World} (h : Below B w w') (n : Nat) : Below B w (w'.drewN n) := ⟨h.os, h.tape, h.output, h.size, h.block⟩
theorem Bks.worn {w : World} {g o i : Nat} {f : List Bk} {hs : List (Option Addr × Nat)} {b : Bk} (h : Bks w (some ⟨g, o, none⟩) f hs) (hi : f[i]? = some b) : w.cell? ⟨g, o + i * 2 + 1, none⟩ = some (.int .i64 b.worn) := by
  obtain ⟨_, _, _, z1, _⟩ := h.at_ hi; exact z1
set_option maxRecDepth 100000 in
set_option maxHeartbeats 4000000 in
theorem spec_l3Open (f : List Bk) (A : Option Addr) (c : Nat) (w : World) (hl : f.length < 1000000000000) (hp : ∀ b ∈ f, b.pages.length < 1000000000000) (hF : Fl w A f) :
    Calls Try.prog 45 #[.slice A f.length c] w fun e w' => e = .returned (.tuple #[.int .i64 (openB f).1, .bool (openB f).2]) ∧ 0 ≤ (openB f).1 ∧ (f ≠ [] → (openB f).1 < f.length) ∧ Below w.heap.size w w' := by
  have HP := Lib.hid hp
  have hT : Hid (openB f = openGo f 0 (-1) (f.drop 0)) := rfl
  clear hp
  go_enter Try.func45, Try.ntmps45
  go_wp2
  go_loopw [4, 5] (fun q i wr => ∃ (k : Nat) (m : Int), k ≤ f.length ∧ i = .int .i64 k ∧ q = .int .i64 m ∧ -1 ≤ m ∧ m < f.length ∧ Below w.heap.size w wr ∧ Hid (openB f = openGo f k m (f.drop k))) (fun _ i _ => f.length - (intOf i).toNat)
  case atStart => exact ⟨0, -1, by omega, rfl, rfl, by omega, by omega, Below.refl _ _, hT⟩
  case round =>
    clear hT
    obtain ⟨k, m, hk, rfl, rfl, hm0, hm1, hb, hT⟩ := hrel
    by_cases hlt : k < f.length
    · obtain ⟨B, hB⟩ := get_some hlt
      have hFk := hF.below hb (Nat.le_refl _)
      obtain ⟨hs, hBk⟩ := hFk
      obtain ⟨g, o, rfl⟩ := hBk.addr (by rintro rfl; simp at hlt)
      obtain ⟨⟨Ap, cp⟩, _, z0, z1, _, _, hR, _⟩ := hBk.at_ hB
      have hd := Lib.hid (drop_cons hB)
      have hpl := HP.out B (List.mem_of_getElem? hB)
      have hk1 : (k : Int) < f.length := by omega
      have hT1 : Hid (openB f = if 0 < clean B ∧ clean B < 4 then ((k : Int), true) else if 0 < clean B ∧ (m < 0 ∨ B.worn < (f.getD m.toNat zbk).worn) then openGo f (k + 1) k (f.drop (k + 1)) else openGo f (k + 1) m (f.drop (k + 1))) := by rw [Hid, hT.out, hd.out, openGo]
      have HB := Lib.hid hB
      clear hB hT hd
      go_wp2_with fail
      refine (spec_l2Clean B Ap cp _ hpl hR).mono ?_
      rintro e w1 ⟨rfl, hb1⟩
      have hb2 := hb.trans (hb1.mono hb.size)
      have hBk1 := hBk.below hb1 (Nat.le_refl _)
      replace z1 := hBk1.worn HB.out
      have hmx : ∀ m' : Nat, m = m' → w1.cell? ⟨g, o + m' * 2 + 1, none⟩ = some (.int .i64 (f.getD m.toNat zbk).worn) := fun m' e => by
        subst e
        obtain ⟨C, hC⟩ := get_some (l := f) (k := m') (by omega)
        have := hBk1.worn hC
        rw [this, Int.toNat_natCast, List.getD_eq_getElem?_getD, hC]; rfl
      clear hb hb1 z0 hR
      generalize clean B = x at *
      by_cases h1 : 0 < x
      · have h1' : (0 : Int) < x := by omega
        by_cases h2 : x < 4
        · have hfin : Hid (openB f = ((k : Int), true)) := by rw [Hid, hT1.out, if_pos ⟨h1, h2⟩]
          have h2' : (x : Int) < 4 := by omega
          clear hT1
          go_wp2
          go_ret2
          rw [hfin.out]
          exact ⟨rfl, by simp, fun _ => hk1, hb2⟩
        · have h2' : (4 : Int) ≤ x := by omega
          by_cases h3 : m < 0
          · have hT2 : Hid (openB f = openGo f (k + 1) k (f.drop (k + 1))) := by rw [Hid, hT1.out, if_neg (fun h => h2 h.2), if_pos ⟨h1, .inl h3⟩]
            clear hT1
            go_wp2
            go_quiet (fail)
            go_wp2
            go_roundw
            case rel => exact ⟨k + 1, k, by omega, by go_num, rfl, by omega, hk1, below_drewN hb2 _, hT2⟩
            case measure => simp [intOf]; omega
          · obtain ⟨m', rfl⟩ := Int.eq_ofNat_of_zero_le (show 0 ≤ m by omega)
            have hmc := hmx m' rfl
            have hT1' : Hid (openB f = if B.worn < (f.getD m' zbk).worn then openGo f (k + 1) k (f.drop (k + 1)) else openGo f (k + 1) m' (f.drop (k + 1))) := by
              rw [Hid, hT1.out, if_neg (fun h => h2 h.2), Int.toNat_natCast]
              by_cases h4 : B.worn < (f.getD m' zbk).worn
              · rw [if_pos ⟨h1, .inr h4⟩, if_pos h4]
              · rw [if_neg (by intro h; rcases h.2 with h | h; omega; exact h4 h), if_neg h4]
            rw [Int.toNat_natCast] at hmc
            clear hT1 hmx
            generalize (f.getD m' zbk).worn = y at *
            by_cases h4 : B.worn < y
            · have hT2 : Hid (openB f = openGo f (k + 1) k (f.drop (k + 1))) := by rw [Hid, hT1'.out, if_pos h4]
              clear hT1'
              go_wp2
              go_quiet (fail)
              go_wp2
              go_roundw
              case rel => exact ⟨k + 1, k, by omega, by go_num, rfl, by omega, hk1, below_drewN hb2 _, hT2⟩
              case measure => simp [intOf]; omega
            · have hT2 : Hid (openB f = openGo f (k + 1) m' (f.drop (k + 1))) := by rw [Hid, hT1'.out, if_neg h4]
              clear hT1'
              go_wp2
              go_quiet (fail)
              go_wp2
              go_roundw
              case rel => exact ⟨k + 1, m', by omega, by go_num, rfl, by omega, hm1, below_drewN hb2 _, hT2⟩
              case measure => simp [intOf]; omega
      · obtain rfl : x = 0 := by omega
        have hT2 : Hid (openB f = openGo f (k + 1) m (f.drop (k + 1))) := by rw [Hid, hT1.out, if_neg (fun h => h1 h.1), if_neg (fun h => h1 h.1)]
        clear hT1
        go_wp2
        go_quiet (fail)
        go_wp2
        go_roundw
        case rel => exact ⟨k + 1, m, by omega, by go_num, rfl, by omega, hm1, below_drewN hb2 _, hT2⟩
        case measure => simp [intOf]; omega
    · obtain rfl : k = f.length := by omega
      have hfin : Hid (openB f = (max m 0, decide (0 ≤ m))) := by rw [Hid, hT.out, List.drop_of_length_le (Nat.le_refl _)]; rfl
      by_cases hm : m < 0
      · have hm' : ¬ 0 ≤ m := by omega
        go_wp2
        go_ret2
        rw [hfin.out]
        refine ⟨?_, by simp; omega, fun hne => ?_, hb⟩
        · simp [hm']; omega
        · have : 0 < f.length := List.length_pos_iff.2 hne
          simp; omega
      · have hm' : 0 ≤ m := by omega
        go_wp2
        all_goals go_ret2
        all_goals rw [hfin.out]
        all_goals refine ⟨?_, by simp; omega, fun hne => ?_, hb⟩
        all_goals first
          | (have : 0 < f.length := List.length_pos_iff.2 hne; simp; omega)
          | (simp [hm']; omega)
end Go.Proofs.Ytlchlhjjoddocaa
