/- What the laws' walks share: words, plain laws, and the walks of functions, part 4. -/
import Derived.Deep.RegionHeld3
import Derived.Laws.MakeOwn
import Derived.BigQuiet
import Derived.Laws.Bits64
import Derived.Deep.Slices
import Derived.Test.YtbekihiiildgmaaW3
namespace Go.Proofs.Ytbekihiiildgmaa
set_option linter.unusedVariables false
set_option linter.unusedSimpArgs false
open Go.RowKit Go.Maps
set_option maxHeartbeats 400000
theorem wp_cut {P : Program} {c : Code} {Q : Exit → Act → World → Prop} {a : Act} {w : World} (F : (Nat → Value) → Act) (R : World → Prop)
    (h : c.wp P (fun e a' w' => e = .normal ∧ R w' ∧ ∃ v, a' = F v) a w) (h2 : ∀ v w', R w' → Q .normal (F v) w') : c.wp P Q a w :=
  Code.wp_mono (fun e a' w' ⟨he, hR, v, hv⟩ => by subst he; subst hv; exact h2 v w' hR) h
theorem cut_ex {a : Act} {F : (Nat → Value) → Act} (h : a = F (fun i => a.tmps.getD i undef)) : ∃ v, a = F v := ⟨_, h⟩
set_option maxHeartbeats 8000000 in
set_option maxRecDepth 100000 in
theorem spec_FindOrder (f : List Bk) (A : Option Addr) (n c : Nat) (w : World) (hn : n = f.length) (hl : f.length < 1000000000000) (hF : Fl w A f) :
    Calls Try.prog 64 #[.slice A n c] w fun e w' => e = .returned (.bool (findOrder f)) ∧ Below w.heap.size w w' := by
  subst hn
  by_cases hok : flashOk f = true
  · have hfin : Hid (findOrder f = allOrd f 0 f) := by unfold Hid findOrder; rw [if_pos hok]
    have HPL := Lib.hid (show ∀ b ∈ f, b.pages.length < 1000000000000 from fun b hb => by rw [(flashOk_shape hok b hb).1]; omega)
    have HL := Lib.hid (flashOk_len hok)
    go_enter Try.func64, Try.ntmps64
    go_wp2_with fail
    refine (spec_FlashOk f A c _ hl hF).mono ?_
    rw [hok]
    clear hok
    rintro e w1 ⟨rfl, hb1⟩
    obtain ⟨hs, hBk⟩ := hF.below hb1 (Nat.le_refl _)
    obtain ⟨g, o, rfl⟩ := hBk.addr (by intro e; have := HL.out; rw [e] at this; simp at this)
    rw [HL.out]
    go_wp2
    go_loopw [3] (fun i wr => ∃ k : Nat, k ≤ 4 ∧ i = .int .i64 k ∧ Below w1.heap.size w1 wr ∧ Hid (allOrd f 0 f = allOrd f k (f.drop k))) (fun i _ => 4 - (intOf i).toNat)
    case atStart => exact ⟨0, by omega, rfl, Below.refl _ _, rfl⟩
    case round =>
      obtain ⟨k, hk, rfl, hB, hT⟩ := hrel
      by_cases hlt : k < 4
      · obtain ⟨a, ha⟩ := get_some (l := f) (k := k) (by rw [HL.out]; exact hlt)
        have hT2 : Hid (allOrd f 0 f = if rowOrd k a 0 f = true then allOrd f (k + 1) (f.drop (k + 1)) else false) := by rw [Hid, hT.out, drop_cons ha, allOrd]
        have hk1 : (k : Int) < 4 := by omega
        have hpl := HPL.out a (List.mem_of_getElem? ha)
        clear hT
        go_wp2
        go_loopw [4] (fun i wl => ∃ j : Nat, j ≤ 4 ∧ i = .int .i64 j ∧ Below w1.heap.size w1 wl ∧ Hid (rowOrd k a 0 f = rowOrd k a j (f.drop j))) (fun i _ => 4 - (intOf i).toNat)
        case atStart => exact ⟨0, by omega, rfl, hB, rfl⟩
        case round =>
          obtain ⟨j, hj, rfl, hBl, hU⟩ := hrel
          by_cases hjt : j < 4
          · obtain ⟨b, hb⟩ := get_some (l := f) (k := j) (by rw [HL.out]; exact hjt)
            have hU2 : Hid (rowOrd k a 0 f = if bad1 k j a b = true ∨ bad2 k j a b = true then false else rowOrd k a (j + 1) (f.drop (j + 1))) := by rw [Hid, hU.out, drop_cons hb, rowOrd]
            have hj1 : (j : Int) < 4 := by omega
            obtain ⟨⟨Z, cz⟩, _, c0, c1, _, _, _, _⟩ := (hBk.below hBl (Nat.le_refl _)).at_ ha
            have hBa : Below w1.heap.size w1 (wr.alloc (.cells #[.slice Z a.pages.length cz, .int .i64 a.worn] 137)) := hBl.alloc hBl.size _
            obtain ⟨⟨Y, cy⟩, _, d0, d1, _, _, _, _⟩ := (hBk.below hBa (Nat.le_refl _)).at_ hb
            dsimp only at c0 d0
            have hBb : Below w1.heap.size w1 ((wr.alloc (.cells #[.slice Z a.pages.length cz, .int .i64 a.worn] 137)).alloc (.cells #[.slice Y b.pages.length cy, .int .i64 b.worn] 137)) := hBa.alloc hBa.size _
            have hBk2 := hBk.below hBb (Nat.le_refl _)
            have hx1 := ‹hs[k]? = some (Z, cz)›
            have hx2 := ‹hs[j]? = some (Y, cy)›
            have hR1 := (hBk2.pg k a (Z, cz) ha hx1).1
            have hR2 := (hBk2.pg j b (Y, cy) hb hx2).1
            dsimp only at hR1 hR2
            have p0 : ((wr.alloc (.cells #[.slice Z a.pages.length cz, .int .i64 a.worn] 137)).alloc (.cells #[.slice Y b.pages.length cy, .int .i64 b.worn] 137)).cell? ⟨wr.heap.size, 0, none⟩ = some (.slice Z a.pages.length cz) := by simp [go_sem]
            have p1 : ((wr.alloc (.cells #[.slice Z a.pages.length cz, .int .i64 a.worn] 137)).alloc (.cells #[.slice Y b.pages.length cy, .int .i64 b.worn] 137)).cell? ⟨wr.heap.size, 1, none⟩ = some (.int .i64 a.worn) := by simp [go_sem]
            have q0 : ((wr.alloc (.cells #[.slice Z a.pages.length cz, .int .i64 a.worn] 137)).alloc (.cells #[.slice Y b.pages.length cy, .int .i64 b.worn] 137)).cell? ⟨wr.heap.size + 1, 0, none⟩ = some (.slice Y b.pages.length cy) := by simp [go_sem]
            have q1 : ((wr.alloc (.cells #[.slice Z a.pages.length cz, .int .i64 a.worn] 137)).alloc (.cells #[.slice Y b.pages.length cy, .int .i64 b.worn] 137)).cell? ⟨wr.heap.size + 1, 1, none⟩ = some (.int .i64 b.worn) := by simp [go_sem]
            have hqL := HPL.out b (List.mem_of_getElem? hb)
            have hsz : ((wr.alloc (.cells #[.slice Z a.pages.length cz, .int .i64 a.worn] 137)).alloc (.cells #[.slice Y b.pages.length cy, .int .i64 b.worn] 137)).heap.size = wr.heap.size + 2 := by simp
            clear hU hb hx1 hx2 hBk2 hBa
            go_wp2
            obtain ⟨W2, hW2⟩ : ∃ W2, (wr.alloc (.cells #[.slice Z a.pages.length cz, .int .i64 a.worn] 137)).alloc (.cells #[.slice Y b.pages.length cy, .int .i64 b.worn] 137) = W2 := ⟨_, rfl⟩
            rw [hW2] at hBb hR1 hR2 p0 p1 q0 q1 hsz ⊢
            clear hW2
            obtain ⟨ma, hma⟩ : ∃ x : Int, most a = x := ⟨_, rfl⟩
            obtain ⟨mb, hmb⟩ : ∃ x : Int, most b = x := ⟨_, rfl⟩
            obtain ⟨la, hla⟩ : ∃ x : Int, least a = x := ⟨_, rfl⟩
            obtain ⟨lb, hlb⟩ : ∃ x : Int, least b = x := ⟨_, rfl⟩
            obtain ⟨ca, hca⟩ : ∃ x : Int, (clean a : Int) = x := ⟨_, rfl⟩
            obtain ⟨cb, hcb⟩ : ∃ x : Int, (clean b : Int) = x := ⟨_, rfl⟩
            have LI : ∀ (n m : Nat) (p q : Prop) [Decidable p] [Decidable q], (p ↔ q) → decide p = decide q := fun _ _ _ _ _ _ h => by rw [decide_eq_decide]; exact h
            have hpa : partly a = (decide (0 < ca) && decide (ca < 4)) := by unfold partly; rw [LI 0 0 (0 < clean a) (0 < ca) (by omega), LI 0 0 (clean a < 4) (ca < 4) (by omega)]
            have hpb : partly b = (decide (0 < cb) && decide (cb < 4)) := by unfold partly; rw [LI 0 0 (0 < clean b) (0 < cb) (by omega), LI 0 0 (clean b < 4) (cb < 4) (by omega)]
            have B1 : Hid (bad1 k j a b = (decide (k ≠ j) && (decide (0 < ma) && (decide (0 < mb) && (decide (la < mb) && decide (lb < ma)))))) := by rw [Hid, bad1, hma, hmb, hla, hlb]
            have B2 : Hid (bad2 k j a b = (decide (k ≠ j) && ((decide (0 < ca) && decide (ca < 4)) && ((decide (0 < cb) && decide (cb < 4)) || (decide (0 < ma) && decide (ma < mb)))))) := by rw [Hid, bad2, hpa, hpb, hma, hmb]
            have MA : ∀ X, Below W2.heap.size W2 X → Calls Try.prog 114 #[.agg #[.slice Z a.pages.length cz, .int .i64 a.worn]] X fun e w' => e = .returned (.int .i64 ma) ∧ Below X.heap.size X w' := fun X h => by rw [← hma]; exact spec_l3Most a Z cz X hpl (hR1.below h (Nat.le_refl _))
            have MB : ∀ X, Below W2.heap.size W2 X → Calls Try.prog 114 #[.agg #[.slice Y b.pages.length cy, .int .i64 b.worn]] X fun e w' => e = .returned (.int .i64 mb) ∧ Below X.heap.size X w' := fun X h => by rw [← hmb]; exact spec_l3Most b Y cy X hqL (hR2.below h (Nat.le_refl _))
            have LA : ∀ X, Below W2.heap.size W2 X → Calls Try.prog 115 #[.agg #[.slice Z a.pages.length cz, .int .i64 a.worn]] X fun e w' => e = .returned (.int .i64 la) ∧ Below X.heap.size X w' := fun X h => by rw [← hla]; exact spec_l3Least a Z cz X hpl (hR1.below h (Nat.le_refl _))
            have LB : ∀ X, Below W2.heap.size W2 X → Calls Try.prog 115 #[.agg #[.slice Y b.pages.length cy, .int .i64 b.worn]] X fun e w' => e = .returned (.int .i64 lb) ∧ Below X.heap.size X w' := fun X h => by rw [← hlb]; exact spec_l3Least b Y cy X hqL (hR2.below h (Nat.le_refl _))
            have CA : ∀ X, Below W2.heap.size W2 X → Calls Try.prog 116 #[.agg #[.slice Z a.pages.length cz, .int .i64 a.worn]] X fun e w' => e = .returned (.int .i64 ca) ∧ Below X.heap.size X w' := fun X h => by rw [← hca]; exact spec_l2Clean a Z cz X hpl (hR1.below h (Nat.le_refl _))
            have CB : ∀ X, Below W2.heap.size W2 X → Calls Try.prog 116 #[.agg #[.slice Y b.pages.length cy, .int .i64 b.worn]] X fun e w' => e = .returned (.int .i64 cb) ∧ Below X.heap.size X w' := fun X h => by rw [← hcb]; exact spec_l2Clean b Y cy X hqL (hR2.below h (Nat.le_refl _))
            replace MA := Lib.hid MA
            replace MB := Lib.hid MB
            replace LA := Lib.hid LA
            replace LB := Lib.hid LB
            replace CA := Lib.hid CA
            replace CB := Lib.hid CB
            have SS : ∀ X, Below W2.heap.size W2 X → X.cell? ⟨wr.heap.size, 0, none⟩ = some (.slice Z a.pages.length cz) ∧ X.cell? ⟨wr.heap.size, 1, none⟩ = some (.int .i64 a.worn) ∧ X.cell? ⟨wr.heap.size + 1, 0, none⟩ = some (.slice Y b.pages.length cy) ∧ X.cell? ⟨wr.heap.size + 1, 1, none⟩ = some (.int .i64 b.worn) := fun X h =>
              ⟨(h.cell (p := ⟨wr.heap.size, 0, none⟩) (by show wr.heap.size < _; omega)).trans p0, (h.cell (p := ⟨wr.heap.size, 1, none⟩) (by show wr.heap.size < _; omega)).trans p1, (h.cell (p := ⟨wr.heap.size + 1, 0, none⟩) (by show wr.heap.size + 1 < _; omega)).trans q0, (h.cell (p := ⟨wr.heap.size + 1, 1, none⟩) (by show wr.heap.size + 1 < _; omega)).trans q1⟩
            have hcl : ∀ X, Below W2.heap.size W2 X → Below w1.heap.size w1 X := fun X h => hBb.trans (h.mono hBb.size)
            have hb0 : Below W2.heap.size W2 W2.drew := (Below.refl _ _).drew
            replace SS := Lib.hid SS
            clear hR1 hR2 p0 p1 q0 q1 hBb c0 c1 d0 d1 hma hmb hla hlb hca hcb hpa hpb LI hpl hqL
            refine wp_cut (fun x => { tmps := #[Value.slice (some ⟨g, o, none⟩) 4 c, undef, x 2, Value.int .i64 (k : Int), Value.int .i64 (j : Int), Value.pointer (some ⟨wr.heap.size, 0, none⟩), Value.pointer (some ⟨wr.heap.size + 1, 0, none⟩), Value.slice (some ⟨g, o, none⟩) 4 c, Value.bool true, Value.bool false, Value.int .i64 (k : Int), Value.slice (some ⟨g, o, none⟩) 4 c, Value.int .i64 4, Value.bool true, u14, u15, x 16, x 17, x 18, x 19, x 20, x 21, x 22, x 23, x 24, x 25, x 26, x 27, x 28, x 29, x 30, x 31, x 32, x 33, x 34, x 35, x 36, x 37, x 38, x 39, x 40, x 41, x 42, x 43, x 44, x 45, x 46, x 47, x 48, x 49, x 50, x 51, x 52, x 53, x 54, x 55, Value.bool (bad1 k j a b), x 57, x 58, x 59, x 60, x 61, x 62, x 63, x 64, x 65, x 66, x 67, x 68, x 69, x 70, x 71, x 72, x 73, x 74, x 75, x 76, x 77, x 78, x 79, x 80, x 81, x 82, x 83, x 84, x 85, x 86, x 87, x 88, x 89, x 90, x 91], defers := [] }) (fun X => Below W2.heap.size W2 X) ?reg11 ?rest11
            case reg11 =>
              refine wp_region_held_drew (S := fun X => X.cell? ⟨wr.heap.size, 0, none⟩ = some (.slice Z a.pages.length cz) ∧ X.cell? ⟨wr.heap.size, 1, none⟩ = some (.int .i64 a.worn) ∧ X.cell? ⟨wr.heap.size + 1, 0, none⟩ = some (.slice Y b.pages.length cy) ∧ X.cell? ⟨wr.heap.size + 1, 1, none⟩ = some (.int .i64 b.worn)) (by kernel_rfl) (SS.out _ hb0) (fun hHeld0 => ?_)
              refine wpAnyH_take (i := 0) (v := ?vg1) rfl (by kernel_rfl) (by kernel_rfl) (by kernel_rfl) (fun _ _ _ h => nomatch h.1) (Or.inl ⟨by kernel_rfl, ?yg1⟩) hHeld0 ?rg1
              case yg1 => (intro w' hS; (try dsimp only at hS); obtain ⟨s0, s1, s2, s3⟩ := hS; (try go_simp); (try with_reducible rfl))
              try simp only [Act.put, jA, jB, jC, jD, jE, jF]
              refine wpAnyH_take (i := 1) (v := ?vg2) rfl (by kernel_rfl) (by kernel_rfl) (by kernel_rfl) (fun _ _ _ h => nomatch h.1) (Or.inl ⟨by kernel_rfl, ?yg2⟩) hHeld0 ?rg2
              case yg2 => (intro w' hS; (try dsimp only at hS); obtain ⟨s0, s1, s2, s3⟩ := hS; (try go_simp); (try with_reducible rfl))
              try simp only [Act.put, jA, jB, jC, jD, jE, jF]
              by_cases n0 : k ≠ j
              · have dn0 : ((k : Int) != (j : Int)) = true := by rw [bne_iff_ne]; omega
                have en0 : decide (k ≠ j) = true := decide_eq_true n0
                refine wpAnyH_take (i := 2) (v := ?vg3) rfl (by kernel_rfl) (by kernel_rfl) (by kernel_rfl) (fun _ _ _ h => nomatch h.1) (Or.inl ⟨by kernel_rfl, ?yg3⟩) hHeld0 ?rg3
                case yg3 => (intro w' hS; (try dsimp only at hS); obtain ⟨s0, s1, s2, s3⟩ := hS; (try go_simp); (try with_reducible rfl))
                try simp only [Act.put, jA, jB, jC, jD, jE, jF]
                refine wpAnyH_take (i := 3) (v := ?vg4) rfl (by kernel_rfl) (by kernel_rfl) (by kernel_rfl) (fun _ _ _ h => nomatch h.1) (Or.inl ⟨by kernel_rfl, ?yg4⟩) hHeld0 ?rg4
                case yg4 => (intro w' hS; (try dsimp only at hS); obtain ⟨s0, s1, s2, s3⟩ := hS; (try go_simp); (try with_reducible rfl))
                try simp only [Act.put, jA, jB, jC, jD, jE, jF]
                refine wpAnyH_take (i := 4) (v := ?vg5) rfl (by kernel_rfl) (by kernel_rfl) (by kernel_rfl) (fun _ _ _ h => nomatch h.1) (Or.inl ⟨by kernel_rfl, ?yg5⟩) hHeld0 ?rg5
                case yg5 => (intro w' hS; (try dsimp only at hS); obtain ⟨s0, s1, s2, s3⟩ := hS; (try go_simp); (try with_reducible rfl))
                try simp only [Act.put, jA, jB, jC, jD, jE, jF]
                refine wpAnyH_ready (rs := [5]) (by kernel_rfl) (by simp) ?_
                refine AllReadyH.cons rfl (fun K hK => ?_) AllReadyH.nil
                go_simp
                refine (MA.out _ hb0).mono ?_
                rintro e x1 ⟨rfl, hc1⟩
                have hb1 := hb0.trans (hc1.mono hb0.size)
                clear hc1
                go_wp2_with fail
                refine hK.out _ _ (SS.out _ hb1) (fun hHeld1 => ?_)
                clear hK K
                try simp only [Act.put, jA, jB, jC, jD, jE, jF]
                by_cases n1 : 0 < ma
                · have dn1 : decide (0 < ma) = true := decide_eq_true n1
                  refine wpAnyH_take (i := 6) (v := ?vg6) rfl (by kernel_rfl) (by kernel_rfl) (by kernel_rfl) (fun _ _ _ h => nomatch h.1) (Or.inl ⟨by kernel_rfl, ?yg6⟩) hHeld1 ?rg6
                  case yg6 => (intro w' hS; (try dsimp only at hS); obtain ⟨s0, s1, s2, s3⟩ := hS; (try go_simp); (try with_reducible rfl))
                  try simp only [Act.put, jA, jB, jC, jD, jE, jF]
                  refine wpAnyH_take (i := 7) (v := ?vg7) rfl (by kernel_rfl) (by kernel_rfl) (by kernel_rfl) (fun _ _ _ h => nomatch h.1) (Or.inl ⟨by kernel_rfl, ?yg7⟩) hHeld1 ?rg7
                  case yg7 => (intro w' hS; (try dsimp only at hS); obtain ⟨s0, s1, s2, s3⟩ := hS; (try go_simp); (try with_reducible rfl))
                  try simp only [Act.put, jA, jB, jC, jD, jE, jF]
                  refine wpAnyH_take (i := 8) (v := ?vg8) rfl (by kernel_rfl) (by kernel_rfl) (by kernel_rfl) (fun _ _ _ h => nomatch h.1) (Or.inl ⟨by kernel_rfl, ?yg8⟩) hHeld1 ?rg8
                  case yg8 => (intro w' hS; (try dsimp only at hS); obtain ⟨s0, s1, s2, s3⟩ := hS; (try go_simp); (try with_reducible rfl))
                  try simp only [Act.put, jA, jB, jC, jD, jE, jF]
                  refine wpAnyH_take (i := 9) (v := ?vg9) rfl (by kernel_rfl) (by kernel_rfl) (by kernel_rfl) (fun _ _ _ h => nomatch h.1) (Or.inl ⟨by kernel_rfl, ?yg9⟩) hHeld1 ?rg9
                  case yg9 => (intro w' hS; (try dsimp only at hS); obtain ⟨s0, s1, s2, s3⟩ := hS; (try go_simp); (try with_reducible rfl))
                  try simp only [Act.put, jA, jB, jC, jD, jE, jF]
                  refine wpAnyH_ready (rs := [10]) (by kernel_rfl) (by simp) ?_
                  refine AllReadyH.cons rfl (fun K hK => ?_) AllReadyH.nil
                  go_simp
                  refine (MB.out _ hb1).mono ?_
                  rintro e x2 ⟨rfl, hc2⟩
                  have hb2 := hb1.trans (hc2.mono hb1.size)
                  clear hc2
                  go_wp2_with fail
                  refine hK.out _ _ (SS.out _ hb2) (fun hHeld2 => ?_)
                  clear hK K
                  try simp only [Act.put, jA, jB, jC, jD, jE, jF]
                  by_cases n2 : 0 < mb
                  · have dn2 : decide (0 < mb) = true := decide_eq_true n2
                    refine wpAnyH_take (i := 11) (v := ?vg10) rfl (by kernel_rfl) (by kernel_rfl) (by kernel_rfl) (fun _ _ _ h => nomatch h.1) (Or.inl ⟨by kernel_rfl, ?yg10⟩) hHeld2 ?rg10
                    case yg10 => (intro w' hS; (try dsimp only at hS); obtain ⟨s0, s1, s2, s3⟩ := hS; (try go_simp); (try with_reducible rfl))
                    try simp only [Act.put, jA, jB, jC, jD, jE, jF]
                    refine wpAnyH_take (i := 12) (v := ?vg11) rfl (by kernel_rfl) (by kernel_rfl) (by kernel_rfl) (fun _ _ _ h => nomatch h.1) (Or.inl ⟨by kernel_rfl, ?yg11⟩) hHeld2 ?rg11
                    case yg11 => (intro w' hS; (try dsimp only at hS); obtain ⟨s0, s1, s2, s3⟩ := hS; (try go_simp); (try with_reducible rfl))
                    try simp only [Act.put, jA, jB, jC, jD, jE, jF]
                    refine wpAnyH_take (i := 13) (v := ?vg12) rfl (by kernel_rfl) (by kernel_rfl) (by kernel_rfl) (fun _ _ _ h => nomatch h.1) (Or.inl ⟨by kernel_rfl, ?yg12⟩) hHeld2 ?rg12
                    case yg12 => (intro w' hS; (try dsimp only at hS); obtain ⟨s0, s1, s2, s3⟩ := hS; (try go_simp); (try with_reducible rfl))
                    try simp only [Act.put, jA, jB, jC, jD, jE, jF]
                    refine wpAnyH_take (i := 14) (v := ?vg13) rfl (by kernel_rfl) (by kernel_rfl) (by kernel_rfl) (fun _ _ _ h => nomatch h.1) (Or.inl ⟨by kernel_rfl, ?yg13⟩) hHeld2 ?rg13
                    case yg13 => (intro w' hS; (try dsimp only at hS); obtain ⟨s0, s1, s2, s3⟩ := hS; (try go_simp); (try with_reducible rfl))
                    try simp only [Act.put, jA, jB, jC, jD, jE, jF]
                    refine wpAnyH_take (i := 16) (v := ?vg14) rfl (by kernel_rfl) (by kernel_rfl) (by kernel_rfl) (fun _ _ _ h => nomatch h.1) (Or.inl ⟨by kernel_rfl, ?yg14⟩) hHeld2 ?rg14
                    case yg14 => (intro w' hS; (try dsimp only at hS); obtain ⟨s0, s1, s2, s3⟩ := hS; (try go_simp); (try with_reducible rfl))
                    try simp only [Act.put, jA, jB, jC, jD, jE, jF]
                    refine wpAnyH_ready (rs := [15]) (by kernel_rfl) (by simp) ?_
                    refine AllReadyH.cons rfl (fun K hK => ?_) AllReadyH.nil
                    go_simp
                    refine (LA.out _ hb2).mono ?_
                    rintro e x3 ⟨rfl, hc3⟩
                    have hb3 := hb2.trans (hc3.mono hb2.size)
                    clear hc3
                    go_wp2_with fail
                    refine hK.out _ _ (SS.out _ hb3) (fun hHeld3 => ?_)
                    clear hK K
                    try simp only [Act.put, jA, jB, jC, jD, jE, jF]
                    refine wpAnyH_ready (rs := [17]) (by kernel_rfl) (by simp) ?_
                    refine AllReadyH.cons rfl (fun K hK => ?_) AllReadyH.nil
                    go_simp
                    refine (MB.out _ hb3).mono ?_
                    rintro e x4 ⟨rfl, hc4⟩
                    have hb4 := hb3.trans (hc4.mono hb3.size)
                    clear hc4
                    go_wp2_with fail
                    refine hK.out _ _ (SS.out _ hb4) (fun hHeld4 => ?_)
                    clear hK K
                    try simp only [Act.put, jA, jB, jC, jD, jE, jF]
                    by_cases n3 : la < mb
                    · have dn3 : decide (la < mb) = true := decide_eq_true n3
                      refine wpAnyH_take (i := 18) (v := ?vg15) rfl (by kernel_rfl) (by kernel_rfl) (by kernel_rfl) (fun _ _ _ h => nomatch h.1) (Or.inl ⟨by kernel_rfl, ?yg15⟩) hHeld4 ?rg15
                      case yg15 => (intro w' hS; (try dsimp only at hS); obtain ⟨s0, s1, s2, s3⟩ := hS; (try go_simp); (try with_reducible rfl))
                      try simp only [Act.put, jA, jB, jC, jD, jE, jF]
                      refine wpAnyH_take (i := 19) (v := ?vg16) rfl (by kernel_rfl) (by kernel_rfl) (by kernel_rfl) (fun _ _ _ h => nomatch h.1) (Or.inl ⟨by kernel_rfl, ?yg16⟩) hHeld4 ?rg16
                      case yg16 => (intro w' hS; (try dsimp only at hS); obtain ⟨s0, s1, s2, s3⟩ := hS; (try go_simp); (try with_reducible rfl))
                      try simp only [Act.put, jA, jB, jC, jD, jE, jF]
                      refine wpAnyH_take (i := 20) (v := ?vg17) rfl (by kernel_rfl) (by kernel_rfl) (by kernel_rfl) (fun _ _ _ h => nomatch h.1) (Or.inl ⟨by kernel_rfl, ?yg17⟩) hHeld4 ?rg17
                      case yg17 => (intro w' hS; (try dsimp only at hS); obtain ⟨s0, s1, s2, s3⟩ := hS; (try go_simp); (try with_reducible rfl))
                      try simp only [Act.put, jA, jB, jC, jD, jE, jF]
                      refine wpAnyH_take (i := 21) (v := ?vg18) rfl (by kernel_rfl) (by kernel_rfl) (by kernel_rfl) (fun _ _ _ h => nomatch h.1) (Or.inl ⟨by kernel_rfl, ?yg18⟩) hHeld4 ?rg18
                      case yg18 => (intro w' hS; (try dsimp only at hS); obtain ⟨s0, s1, s2, s3⟩ := hS; (try go_simp); (try with_reducible rfl))
                      try simp only [Act.put, jA, jB, jC, jD, jE, jF]
                      refine wpAnyH_take (i := 23) (v := ?vg19) rfl (by kernel_rfl) (by kernel_rfl) (by kernel_rfl) (fun _ _ _ h => nomatch h.1) (Or.inl ⟨by kernel_rfl, ?yg19⟩) hHeld4 ?rg19
                      case yg19 => (intro w' hS; (try dsimp only at hS); obtain ⟨s0, s1, s2, s3⟩ := hS; (try go_simp); (try with_reducible rfl))
                      try simp only [Act.put, jA, jB, jC, jD, jE, jF]
                      refine wpAnyH_ready (rs := [22]) (by kernel_rfl) (by simp) ?_
                      refine AllReadyH.cons rfl (fun K hK => ?_) AllReadyH.nil
                      go_simp
                      refine (LB.out _ hb4).mono ?_
                      rintro e x5 ⟨rfl, hc5⟩
                      have hb5 := hb4.trans (hc5.mono hb4.size)
                      clear hc5
                      go_wp2_with fail
                      refine hK.out _ _ (SS.out _ hb5) (fun hHeld5 => ?_)
                      clear hK K
                      try simp only [Act.put, jA, jB, jC, jD, jE, jF]
                      refine wpAnyH_ready (rs := [24]) (by kernel_rfl) (by simp) ?_
                      refine AllReadyH.cons rfl (fun K hK => ?_) AllReadyH.nil
                      go_simp
                      refine (MA.out _ hb5).mono ?_
                      rintro e x6 ⟨rfl, hc6⟩
                      have hb6 := hb5.trans (hc6.mono hb5.size)
                      clear hc6
                      go_wp2_with fail
                      refine hK.out _ _ (SS.out _ hb6) (fun hHeld6 => ?_)
                      clear hK K
                      try simp only [Act.put, jA, jB, jC, jD, jE, jF]
                      by_cases n4 : lb < ma
                      · have dn4 : decide (lb < ma) = true := decide_eq_true n4
                        refine wpAnyH_take (i := 25) (v := ?vg20) rfl (by kernel_rfl) (by kernel_rfl) (by kernel_rfl) (fun _ _ _ h => nomatch h.1) (Or.inl ⟨by kernel_rfl, ?yg20⟩) hHeld6 ?rg20
                        case yg20 => (intro w' hS; (try dsimp only at hS); obtain ⟨s0, s1, s2, s3⟩ := hS; (try go_simp); (try with_reducible rfl))
                        try simp only [Act.put, jA, jB, jC, jD, jE, jF]
                        refine wpAnyH_take (i := 26) (v := ?vg21) rfl (by kernel_rfl) (by kernel_rfl) (by kernel_rfl) (fun _ _ _ h => nomatch h.1) (Or.inl ⟨by kernel_rfl, ?yg21⟩) hHeld6 ?rg21
                        case yg21 => (intro w' hS; (try dsimp only at hS); obtain ⟨s0, s1, s2, s3⟩ := hS; (try go_simp); (try with_reducible rfl))
                        try simp only [Act.put, jA, jB, jC, jD, jE, jF]
                        refine wpAnyH_done (by kernel_rfl) ?_ _
                        have hv : bad1 k j a b = true := by rw [B1.out, en0, dn1, dn2, dn3, dn4]; rfl
                        refine ⟨rfl, hb6, ?_⟩
                        rw [hv]
                        exact cut_ex (by kernel_rfl)
                      · have dn4 : decide (lb < ma) = false := decide_eq_false n4
                        refine wpAnyH_take (i := 25) (v := ?vg22) rfl (by kernel_rfl) (by kernel_rfl) (by kernel_rfl) (fun _ _ _ h => nomatch h.1) (Or.inl ⟨by kernel_rfl, ?yg22⟩) hHeld6 ?rg22
                        case yg22 => (intro w' hS; (try dsimp only at hS); obtain ⟨s0, s1, s2, s3⟩ := hS; (try go_simp); (try with_reducible rfl))
                        try simp only [Act.put, jA, jB, jC, jD, jE, jF]
                        refine wpAnyH_take (i := 26) (v := ?vg23) rfl (by kernel_rfl) (by kernel_rfl) (by kernel_rfl) (fun _ _ _ h => nomatch h.1) (Or.inl ⟨by kernel_rfl, ?yg23⟩) hHeld6 ?rg23
                        case yg23 => (intro w' hS; (try dsimp only at hS); obtain ⟨s0, s1, s2, s3⟩ := hS; (try go_simp); (try with_reducible rfl))
                        try simp only [Act.put, jA, jB, jC, jD, jE, jF]
                        refine wpAnyH_done (by kernel_rfl) ?_ _
                        have hv : bad1 k j a b = false := by rw [B1.out, en0, dn1, dn2, dn3, dn4]; rfl
                        refine ⟨rfl, hb6, ?_⟩
                        rw [hv]
                        exact cut_ex (by kernel_rfl)
                    · have dn3 : decide (la < mb) = false := decide_eq_false n3
                      refine wpAnyH_take (i := 18) (v := ?vg24) rfl (by kernel_rfl) (by kernel_rfl) (by kernel_rfl) (fun _ _ _ h => nomatch h.1) (Or.inl ⟨by kernel_rfl, ?yg24⟩) hHeld4 ?rg24
                      case yg24 => (intro w' hS; (try dsimp only at hS); obtain ⟨s0, s1, s2, s3⟩ := hS; (try go_simp); (try with_reducible rfl))
                      try simp only [Act.put, jA, jB, jC, jD, jE, jF]
                      refine wpAnyH_take (i := 19) (v := ?vg25) rfl (by kernel_rfl) (by kernel_rfl) (by kernel_rfl) (fun _ _ _ h => nomatch h.1) (Or.inl ⟨by kernel_rfl, ?yg25⟩) hHeld4 ?rg25
                      case yg25 => (intro w' hS; (try dsimp only at hS); obtain ⟨s0, s1, s2, s3⟩ := hS; (try go_simp); (try with_reducible rfl))
                      try simp only [Act.put, jA, jB, jC, jD, jE, jF]
                      refine wpAnyH_take (i := 20) (v := ?vg26) rfl (by kernel_rfl) (by kernel_rfl) (by kernel_rfl) (fun _ _ _ h => nomatch h.1) (Or.inl ⟨by kernel_rfl, ?yg26⟩) hHeld4 ?rg26
                      case yg26 => (intro w' hS; (try dsimp only at hS); obtain ⟨s0, s1, s2, s3⟩ := hS; (try go_simp); (try with_reducible rfl))
                      try simp only [Act.put, jA, jB, jC, jD, jE, jF]
                      refine wpAnyH_take (i := 21) (v := undef) rfl (by kernel_rfl) (by kernel_rfl) (by kernel_rfl) (fun _ _ _ h => nomatch h.1) (Or.inr ⟨by kernel_rfl, rfl⟩) hHeld4 ?_
                      try simp only [Act.put, jA, jB, jC, jD, jE, jF]
                      refine wpAnyH_take (i := 22) (v := undef) rfl (by kernel_rfl) (by kernel_rfl) (by kernel_rfl) (fun _ _ _ h => nomatch h.1) (Or.inr ⟨by kernel_rfl, rfl⟩) hHeld4 ?_
                      try simp only [Act.put, jA, jB, jC, jD, jE, jF]
                      refine wpAnyH_take (i := 23) (v := undef) rfl (by kernel_rfl) (by kernel_rfl) (by kernel_rfl) (fun _ _ _ h => nomatch h.1) (Or.inr ⟨by kernel_rfl, rfl⟩) hHeld4 ?_
                      try simp only [Act.put, jA, jB, jC, jD, jE, jF]
                      refine wpAnyH_take (i := 24) (v := undef) rfl (by kernel_rfl) (by kernel_rfl) (by kernel_rfl) (fun _ _ _ h => nomatch h.1) (Or.inr ⟨by kernel_rfl, rfl⟩) hHeld4 ?_
                      try simp only [Act.put, jA, jB, jC, jD, jE, jF]
                      refine wpAnyH_take (i := 25) (v := undef) rfl (by kernel_rfl) (by kernel_rfl) (by kernel_rfl) (fun _ _ _ h => nomatch h.1) (Or.inr ⟨by kernel_rfl, rfl⟩) hHeld4 ?_
                      try simp only [Act.put, jA, jB, jC, jD, jE, jF]
                      refine wpAnyH_take (i := 26) (v := ?vg27) rfl (by kernel_rfl) (by kernel_rfl) (by kernel_rfl) (fun _ _ _ h => nomatch h.1) (Or.inl ⟨by kernel_rfl, ?yg27⟩) hHeld4 ?rg27
                      case yg27 => (intro w' hS; (try dsimp only at hS); obtain ⟨s0, s1, s2, s3⟩ := hS; (try go_simp); (try with_reducible rfl))
                      try simp only [Act.put, jA, jB, jC, jD, jE, jF]
                      refine wpAnyH_done (by kernel_rfl) ?_ _
                      have hv : bad1 k j a b = false := by rw [B1.out, en0, dn1, dn2, dn3]; rfl
                      refine ⟨rfl, hb4, ?_⟩
                      rw [hv]
                      exact cut_ex (by kernel_rfl)
                  · have dn2 : decide (0 < mb) = false := decide_eq_false n2
                    refine wpAnyH_take (i := 11) (v := ?vg28) rfl (by kernel_rfl) (by kernel_rfl) (by kernel_rfl) (fun _ _ _ h => nomatch h.1) (Or.inl ⟨by kernel_rfl, ?yg28⟩) hHeld2 ?rg28
                    case yg28 => (intro w' hS; (try dsimp only at hS); obtain ⟨s0, s1, s2, s3⟩ := hS; (try go_simp); (try with_reducible rfl))
                    try simp only [Act.put, jA, jB, jC, jD, jE, jF]
                    refine wpAnyH_take (i := 12) (v := ?vg29) rfl (by kernel_rfl) (by kernel_rfl) (by kernel_rfl) (fun _ _ _ h => nomatch h.1) (Or.inl ⟨by kernel_rfl, ?yg29⟩) hHeld2 ?rg29
                    case yg29 => (intro w' hS; (try dsimp only at hS); obtain ⟨s0, s1, s2, s3⟩ := hS; (try go_simp); (try with_reducible rfl))
                    try simp only [Act.put, jA, jB, jC, jD, jE, jF]
                    refine wpAnyH_take (i := 13) (v := ?vg30) rfl (by kernel_rfl) (by kernel_rfl) (by kernel_rfl) (fun _ _ _ h => nomatch h.1) (Or.inl ⟨by kernel_rfl, ?yg30⟩) hHeld2 ?rg30
                    case yg30 => (intro w' hS; (try dsimp only at hS); obtain ⟨s0, s1, s2, s3⟩ := hS; (try go_simp); (try with_reducible rfl))
                    try simp only [Act.put, jA, jB, jC, jD, jE, jF]
                    refine wpAnyH_take (i := 14) (v := undef) rfl (by kernel_rfl) (by kernel_rfl) (by kernel_rfl) (fun _ _ _ h => nomatch h.1) (Or.inr ⟨by kernel_rfl, rfl⟩) hHeld2 ?_
                    try simp only [Act.put, jA, jB, jC, jD, jE, jF]
                    refine wpAnyH_take (i := 15) (v := undef) rfl (by kernel_rfl) (by kernel_rfl) (by kernel_rfl) (fun _ _ _ h => nomatch h.1) (Or.inr ⟨by kernel_rfl, rfl⟩) hHeld2 ?_
                    try simp only [Act.put, jA, jB, jC, jD, jE, jF]
                    refine wpAnyH_take (i := 16) (v := undef) rfl (by kernel_rfl) (by kernel_rfl) (by kernel_rfl) (fun _ _ _ h => nomatch h.1) (Or.inr ⟨by kernel_rfl, rfl⟩) hHeld2 ?_
                    try simp only [Act.put, jA, jB, jC, jD, jE, jF]
                    refine wpAnyH_take (i := 17) (v := undef) rfl (by kernel_rfl) (by kernel_rfl) (by kernel_rfl) (fun _ _ _ h => nomatch h.1) (Or.inr ⟨by kernel_rfl, rfl⟩) hHeld2 ?_
                    try simp only [Act.put, jA, jB, jC, jD, jE, jF]
                    refine wpAnyH_take (i := 18) (v := undef) rfl (by kernel_rfl) (by kernel_rfl) (by kernel_rfl) (fun _ _ _ h => nomatch h.1) (Or.inr ⟨by kernel_rfl, rfl⟩) hHeld2 ?_
                    try simp only [Act.put, jA, jB, jC, jD, jE, jF]
                    refine wpAnyH_take (i := 19) (v := ?vg31) rfl (by kernel_rfl) (by kernel_rfl) (by kernel_rfl) (fun _ _ _ h => nomatch h.1) (Or.inl ⟨by kernel_rfl, ?yg31⟩) hHeld2 ?rg31
                    case yg31 => (intro w' hS; (try dsimp only at hS); obtain ⟨s0, s1, s2, s3⟩ := hS; (try go_simp); (try with_reducible rfl))
                    try simp only [Act.put, jA, jB, jC, jD, jE, jF]
                    refine wpAnyH_take (i := 20) (v := ?vg32) rfl (by kernel_rfl) (by kernel_rfl) (by kernel_rfl) (fun _ _ _ h => nomatch h.1) (Or.inl ⟨by kernel_rfl, ?yg32⟩) hHeld2 ?rg32
                    case yg32 => (intro w' hS; (try dsimp only at hS); obtain ⟨s0, s1, s2, s3⟩ := hS; (try go_simp); (try with_reducible rfl))
                    try simp only [Act.put, jA, jB, jC, jD, jE, jF]
                    refine wpAnyH_take (i := 21) (v := undef) rfl (by kernel_rfl) (by kernel_rfl) (by kernel_rfl) (fun _ _ _ h => nomatch h.1) (Or.inr ⟨by kernel_rfl, rfl⟩) hHeld2 ?_
                    try simp only [Act.put, jA, jB, jC, jD, jE, jF]
                    refine wpAnyH_take (i := 22) (v := undef) rfl (by kernel_rfl) (by kernel_rfl) (by kernel_rfl) (fun _ _ _ h => nomatch h.1) (Or.inr ⟨by kernel_rfl, rfl⟩) hHeld2 ?_
                    try simp only [Act.put, jA, jB, jC, jD, jE, jF]
                    refine wpAnyH_take (i := 23) (v := undef) rfl (by kernel_rfl) (by kernel_rfl) (by kernel_rfl) (fun _ _ _ h => nomatch h.1) (Or.inr ⟨by kernel_rfl, rfl⟩) hHeld2 ?_
                    try simp only [Act.put, jA, jB, jC, jD, jE, jF]
                    refine wpAnyH_take (i := 24) (v := undef) rfl (by kernel_rfl) (by kernel_rfl) (by kernel_rfl) (fun _ _ _ h => nomatch h.1) (Or.inr ⟨by kernel_rfl, rfl⟩) hHeld2 ?_
                    try simp only [Act.put, jA, jB, jC, jD, jE, jF]
                    refine wpAnyH_take (i := 25) (v := undef) rfl (by kernel_rfl) (by kernel_rfl) (by kernel_rfl) (fun _ _ _ h => nomatch h.1) (Or.inr ⟨by kernel_rfl, rfl⟩) hHeld2 ?_
                    try simp only [Act.put, jA, jB, jC, jD, jE, jF]
                    refine wpAnyH_take (i := 26) (v := ?vg33) rfl (by kernel_rfl) (by kernel_rfl) (by kernel_rfl) (fun _ _ _ h => nomatch h.1) (Or.inl ⟨by kernel_rfl, ?yg33⟩) hHeld2 ?rg33
                    case yg33 => (intro w' hS; (try dsimp only at hS); obtain ⟨s0, s1, s2, s3⟩ := hS; (try go_simp); (try with_reducible rfl))
                    try simp only [Act.put, jA, jB, jC, jD, jE, jF]
                    refine wpAnyH_done (by kernel_rfl) ?_ _
                    have hv : bad1 k j a b = false := by rw [B1.out, en0, dn1, dn2]; rfl
                    refine ⟨rfl, hb2, ?_⟩
                    rw [hv]
                    exact cut_ex (by kernel_rfl)
                · have dn1 : decide (0 < ma) = false := decide_eq_false n1
                  refine wpAnyH_take (i := 6) (v := ?vg34) rfl (by kernel_rfl) (by kernel_rfl) (by kernel_rfl) (fun _ _ _ h => nomatch h.1) (Or.inl ⟨by kernel_rfl, ?yg34⟩) hHeld1 ?rg34
                  case yg34 => (intro w' hS; (try dsimp only at hS); obtain ⟨s0, s1, s2, s3⟩ := hS; (try go_simp); (try with_reducible rfl))
                  try simp only [Act.put, jA, jB, jC, jD, jE, jF]
                  refine wpAnyH_take (i := 7) (v := ?vg35) rfl (by kernel_rfl) (by kernel_rfl) (by kernel_rfl) (fun _ _ _ h => nomatch h.1) (Or.inl ⟨by kernel_rfl, ?yg35⟩) hHeld1 ?rg35
                  case yg35 => (intro w' hS; (try dsimp only at hS); obtain ⟨s0, s1, s2, s3⟩ := hS; (try go_simp); (try with_reducible rfl))
                  try simp only [Act.put, jA, jB, jC, jD, jE, jF]
                  refine wpAnyH_take (i := 8) (v := ?vg36) rfl (by kernel_rfl) (by kernel_rfl) (by kernel_rfl) (fun _ _ _ h => nomatch h.1) (Or.inl ⟨by kernel_rfl, ?yg36⟩) hHeld1 ?rg36
                  case yg36 => (intro w' hS; (try dsimp only at hS); obtain ⟨s0, s1, s2, s3⟩ := hS; (try go_simp); (try with_reducible rfl))
                  try simp only [Act.put, jA, jB, jC, jD, jE, jF]
                  refine wpAnyH_take (i := 9) (v := undef) rfl (by kernel_rfl) (by kernel_rfl) (by kernel_rfl) (fun _ _ _ h => nomatch h.1) (Or.inr ⟨by kernel_rfl, rfl⟩) hHeld1 ?_
                  try simp only [Act.put, jA, jB, jC, jD, jE, jF]
                  refine wpAnyH_take (i := 10) (v := undef) rfl (by kernel_rfl) (by kernel_rfl) (by kernel_rfl) (fun _ _ _ h => nomatch h.1) (Or.inr ⟨by kernel_rfl, rfl⟩) hHeld1 ?_
                  try simp only [Act.put, jA, jB, jC, jD, jE, jF]
                  refine wpAnyH_take (i := 11) (v := undef) rfl (by kernel_rfl) (by kernel_rfl) (by kernel_rfl) (fun _ _ _ h => nomatch h.1) (Or.inr ⟨by kernel_rfl, rfl⟩) hHeld1 ?_
                  try simp only [Act.put, jA, jB, jC, jD, jE, jF]
                  refine wpAnyH_take (i := 12) (v := ?vg37) rfl (by kernel_rfl) (by kernel_rfl) (by kernel_rfl) (fun _ _ _ h => nomatch h.1) (Or.inl ⟨by kernel_rfl, ?yg37⟩) hHeld1 ?rg37
                  case yg37 => (intro w' hS; (try dsimp only at hS); obtain ⟨s0, s1, s2, s3⟩ := hS; (try go_simp); (try with_reducible rfl))
                  try simp only [Act.put, jA, jB, jC, jD, jE, jF]
                  refine wpAnyH_take (i := 13) (v := ?vg38) rfl (by kernel_rfl) (by kernel_rfl) (by kernel_rfl) (fun _ _ _ h => nomatch h.1) (Or.inl ⟨by kernel_rfl, ?yg38⟩) hHeld1 ?rg38
                  case yg38 => (intro w' hS; (try dsimp only at hS); obtain ⟨s0, s1, s2, s3⟩ := hS; (try go_simp); (try with_reducible rfl))
                  try simp only [Act.put, jA, jB, jC, jD, jE, jF]
                  refine wpAnyH_take (i := 14) (v := undef) rfl (by kernel_rfl) (by kernel_rfl) (by kernel_rfl) (fun _ _ _ h => nomatch h.1) (Or.inr ⟨by kernel_rfl, rfl⟩) hHeld1 ?_
                  try simp only [Act.put, jA, jB, jC, jD, jE, jF]
                  refine wpAnyH_take (i := 15) (v := undef) rfl (by kernel_rfl) (by kernel_rfl) (by kernel_rfl) (fun _ _ _ h => nomatch h.1) (Or.inr ⟨by kernel_rfl, rfl⟩) hHeld1 ?_
                  try simp only [Act.put, jA, jB, jC, jD, jE, jF]
                  refine wpAnyH_take (i := 16) (v := undef) rfl (by kernel_rfl) (by kernel_rfl) (by kernel_rfl) (fun _ _ _ h => nomatch h.1) (Or.inr ⟨by kernel_rfl, rfl⟩) hHeld1 ?_
                  try simp only [Act.put, jA, jB, jC, jD, jE, jF]
                  refine wpAnyH_take (i := 17) (v := undef) rfl (by kernel_rfl) (by kernel_rfl) (by kernel_rfl) (fun _ _ _ h => nomatch h.1) (Or.inr ⟨by kernel_rfl, rfl⟩) hHeld1 ?_
                  try simp only [Act.put, jA, jB, jC, jD, jE, jF]
                  refine wpAnyH_take (i := 18) (v := undef) rfl (by kernel_rfl) (by kernel_rfl) (by kernel_rfl) (fun _ _ _ h => nomatch h.1) (Or.inr ⟨by kernel_rfl, rfl⟩) hHeld1 ?_
                  try simp only [Act.put, jA, jB, jC, jD, jE, jF]
                  refine wpAnyH_take (i := 19) (v := ?vg39) rfl (by kernel_rfl) (by kernel_rfl) (by kernel_rfl) (fun _ _ _ h => nomatch h.1) (Or.inl ⟨by kernel_rfl, ?yg39⟩) hHeld1 ?rg39
                  case yg39 => (intro w' hS; (try dsimp only at hS); obtain ⟨s0, s1, s2, s3⟩ := hS; (try go_simp); (try with_reducible rfl))
                  try simp only [Act.put, jA, jB, jC, jD, jE, jF]
                  refine wpAnyH_take (i := 20) (v := ?vg40) rfl (by kernel_rfl) (by kernel_rfl) (by kernel_rfl) (fun _ _ _ h => nomatch h.1) (Or.inl ⟨by kernel_rfl, ?yg40⟩) hHeld1 ?rg40
                  case yg40 => (intro w' hS; (try dsimp only at hS); obtain ⟨s0, s1, s2, s3⟩ := hS; (try go_simp); (try with_reducible rfl))
                  try simp only [Act.put, jA, jB, jC, jD, jE, jF]
                  refine wpAnyH_take (i := 21) (v := undef) rfl (by kernel_rfl) (by kernel_rfl) (by kernel_rfl) (fun _ _ _ h => nomatch h.1) (Or.inr ⟨by kernel_rfl, rfl⟩) hHeld1 ?_
                  try simp only [Act.put, jA, jB, jC, jD, jE, jF]
                  refine wpAnyH_take (i := 22) (v := undef) rfl (by kernel_rfl) (by kernel_rfl) (by kernel_rfl) (fun _ _ _ h => nomatch h.1) (Or.inr ⟨by kernel_rfl, rfl⟩) hHeld1 ?_
                  try simp only [Act.put, jA, jB, jC, jD, jE, jF]
                  refine wpAnyH_take (i := 23) (v := undef) rfl (by kernel_rfl) (by kernel_rfl) (by kernel_rfl) (fun _ _ _ h => nomatch h.1) (Or.inr ⟨by kernel_rfl, rfl⟩) hHeld1 ?_
                  try simp only [Act.put, jA, jB, jC, jD, jE, jF]
                  refine wpAnyH_take (i := 24) (v := undef) rfl (by kernel_rfl) (by kernel_rfl) (by kernel_rfl) (fun _ _ _ h => nomatch h.1) (Or.inr ⟨by kernel_rfl, rfl⟩) hHeld1 ?_
                  try simp only [Act.put, jA, jB, jC, jD, jE, jF]
                  refine wpAnyH_take (i := 25) (v := undef) rfl (by kernel_rfl) (by kernel_rfl) (by kernel_rfl) (fun _ _ _ h => nomatch h.1) (Or.inr ⟨by kernel_rfl, rfl⟩) hHeld1 ?_
                  try simp only [Act.put, jA, jB, jC, jD, jE, jF]
                  refine wpAnyH_take (i := 26) (v := ?vg41) rfl (by kernel_rfl) (by kernel_rfl) (by kernel_rfl) (fun _ _ _ h => nomatch h.1) (Or.inl ⟨by kernel_rfl, ?yg41⟩) hHeld1 ?rg41
                  case yg41 => (intro w' hS; (try dsimp only at hS); obtain ⟨s0, s1, s2, s3⟩ := hS; (try go_simp); (try with_reducible rfl))
                  try simp only [Act.put, jA, jB, jC, jD, jE, jF]
                  refine wpAnyH_done (by kernel_rfl) ?_ _
                  have hv : bad1 k j a b = false := by rw [B1.out, en0, dn1]; rfl
                  refine ⟨rfl, hb1, ?_⟩
                  rw [hv]
                  exact cut_ex (by kernel_rfl)
              · have dn0 : ((k : Int) != (j : Int)) = false := by rw [bne_eq_false_iff_eq]; omega
                have en0 : decide (k ≠ j) = false := decide_eq_false n0
                refine wpAnyH_take (i := 2) (v := ?vg42) rfl (by kernel_rfl) (by kernel_rfl) (by kernel_rfl) (fun _ _ _ h => nomatch h.1) (Or.inl ⟨by kernel_rfl, ?yg42⟩) hHeld0 ?rg42
                case yg42 => (intro w' hS; (try dsimp only at hS); obtain ⟨s0, s1, s2, s3⟩ := hS; (try go_simp); (try with_reducible rfl))
                try simp only [Act.put, jA, jB, jC, jD, jE, jF]
                refine wpAnyH_take (i := 3) (v := ?vg43) rfl (by kernel_rfl) (by kernel_rfl) (by kernel_rfl) (fun _ _ _ h => nomatch h.1) (Or.inl ⟨by kernel_rfl, ?yg43⟩) hHeld0 ?rg43
                case yg43 => (intro w' hS; (try dsimp only at hS); obtain ⟨s0, s1, s2, s3⟩ := hS; (try go_simp); (try with_reducible rfl))
                try simp only [Act.put, jA, jB, jC, jD, jE, jF]
                refine wpAnyH_take (i := 4) (v := undef) rfl (by kernel_rfl) (by kernel_rfl) (by kernel_rfl) (fun _ _ _ h => nomatch h.1) (Or.inr ⟨by kernel_rfl, rfl⟩) hHeld0 ?_
                try simp only [Act.put, jA, jB, jC, jD, jE, jF]
                refine wpAnyH_take (i := 5) (v := undef) rfl (by kernel_rfl) (by kernel_rfl) (by kernel_rfl) (fun _ _ _ h => nomatch h.1) (Or.inr ⟨by kernel_rfl, rfl⟩) hHeld0 ?_
                try simp only [Act.put, jA, jB, jC, jD, jE, jF]
                refine wpAnyH_take (i := 6) (v := undef) rfl (by kernel_rfl) (by kernel_rfl) (by kernel_rfl) (fun _ _ _ h => nomatch h.1) (Or.inr ⟨by kernel_rfl, rfl⟩) hHeld0 ?_
                try simp only [Act.put, jA, jB, jC, jD, jE, jF]
                refine wpAnyH_take (i := 7) (v := ?vg44) rfl (by kernel_rfl) (by kernel_rfl) (by kernel_rfl) (fun _ _ _ h => nomatch h.1) (Or.inl ⟨by kernel_rfl, ?yg44⟩) hHeld0 ?rg44
                case yg44 => (intro w' hS; (try dsimp only at hS); obtain ⟨s0, s1, s2, s3⟩ := hS; (try go_simp); (try with_reducible rfl))
                try simp only [Act.put, jA, jB, jC, jD, jE, jF]
                refine wpAnyH_take (i := 8) (v := ?vg45) rfl (by kernel_rfl) (by kernel_rfl) (by kernel_rfl) (fun _ _ _ h => nomatch h.1) (Or.inl ⟨by kernel_rfl, ?yg45⟩) hHeld0 ?rg45
                case yg45 => (intro w' hS; (try dsimp only at hS); obtain ⟨s0, s1, s2, s3⟩ := hS; (try go_simp); (try with_reducible rfl))
                try simp only [Act.put, jA, jB, jC, jD, jE, jF]
                refine wpAnyH_take (i := 9) (v := undef) rfl (by kernel_rfl) (by kernel_rfl) (by kernel_rfl) (fun _ _ _ h => nomatch h.1) (Or.inr ⟨by kernel_rfl, rfl⟩) hHeld0 ?_
                try simp only [Act.put, jA, jB, jC, jD, jE, jF]
                refine wpAnyH_take (i := 10) (v := undef) rfl (by kernel_rfl) (by kernel_rfl) (by kernel_rfl) (fun _ _ _ h => nomatch h.1) (Or.inr ⟨by kernel_rfl, rfl⟩) hHeld0 ?_
                try simp only [Act.put, jA, jB, jC, jD, jE, jF]
                refine wpAnyH_take (i := 11) (v := undef) rfl (by kernel_rfl) (by kernel_rfl) (by kernel_rfl) (fun _ _ _ h => nomatch h.1) (Or.inr ⟨by kernel_rfl, rfl⟩) hHeld0 ?_
                try simp only [Act.put, jA, jB, jC, jD, jE, jF]
                refine wpAnyH_take (i := 12) (v := ?vg46) rfl (by kernel_rfl) (by kernel_rfl) (by kernel_rfl) (fun _ _ _ h => nomatch h.1) (Or.inl ⟨by kernel_rfl, ?yg46⟩) hHeld0 ?rg46
                case yg46 => (intro w' hS; (try dsimp only at hS); obtain ⟨s0, s1, s2, s3⟩ := hS; (try go_simp); (try with_reducible rfl))
                try simp only [Act.put, jA, jB, jC, jD, jE, jF]
                refine wpAnyH_take (i := 13) (v := ?vg47) rfl (by kernel_rfl) (by kernel_rfl) (by kernel_rfl) (fun _ _ _ h => nomatch h.1) (Or.inl ⟨by kernel_rfl, ?yg47⟩) hHeld0 ?rg47
                case yg47 => (intro w' hS; (try dsimp only at hS); obtain ⟨s0, s1, s2, s3⟩ := hS; (try go_simp); (try with_reducible rfl))
                try simp only [Act.put, jA, jB, jC, jD, jE, jF]
                refine wpAnyH_take (i := 14) (v := undef) rfl (by kernel_rfl) (by kernel_rfl) (by kernel_rfl) (fun _ _ _ h => nomatch h.1) (Or.inr ⟨by kernel_rfl, rfl⟩) hHeld0 ?_
                try simp only [Act.put, jA, jB, jC, jD, jE, jF]
                refine wpAnyH_take (i := 15) (v := undef) rfl (by kernel_rfl) (by kernel_rfl) (by kernel_rfl) (fun _ _ _ h => nomatch h.1) (Or.inr ⟨by kernel_rfl, rfl⟩) hHeld0 ?_
                try simp only [Act.put, jA, jB, jC, jD, jE, jF]
                refine wpAnyH_take (i := 16) (v := undef) rfl (by kernel_rfl) (by kernel_rfl) (by kernel_rfl) (fun _ _ _ h => nomatch h.1) (Or.inr ⟨by kernel_rfl, rfl⟩) hHeld0 ?_
                try simp only [Act.put, jA, jB, jC, jD, jE, jF]
                refine wpAnyH_take (i := 17) (v := undef) rfl (by kernel_rfl) (by kernel_rfl) (by kernel_rfl) (fun _ _ _ h => nomatch h.1) (Or.inr ⟨by kernel_rfl, rfl⟩) hHeld0 ?_
                try simp only [Act.put, jA, jB, jC, jD, jE, jF]
                refine wpAnyH_take (i := 18) (v := undef) rfl (by kernel_rfl) (by kernel_rfl) (by kernel_rfl) (fun _ _ _ h => nomatch h.1) (Or.inr ⟨by kernel_rfl, rfl⟩) hHeld0 ?_
                try simp only [Act.put, jA, jB, jC, jD, jE, jF]
                refine wpAnyH_take (i := 19) (v := ?vg48) rfl (by kernel_rfl) (by kernel_rfl) (by kernel_rfl) (fun _ _ _ h => nomatch h.1) (Or.inl ⟨by kernel_rfl, ?yg48⟩) hHeld0 ?rg48
                case yg48 => (intro w' hS; (try dsimp only at hS); obtain ⟨s0, s1, s2, s3⟩ := hS; (try go_simp); (try with_reducible rfl))
                try simp only [Act.put, jA, jB, jC, jD, jE, jF]
                refine wpAnyH_take (i := 20) (v := ?vg49) rfl (by kernel_rfl) (by kernel_rfl) (by kernel_rfl) (fun _ _ _ h => nomatch h.1) (Or.inl ⟨by kernel_rfl, ?yg49⟩) hHeld0 ?rg49
                case yg49 => (intro w' hS; (try dsimp only at hS); obtain ⟨s0, s1, s2, s3⟩ := hS; (try go_simp); (try with_reducible rfl))
                try simp only [Act.put, jA, jB, jC, jD, jE, jF]
                refine wpAnyH_take (i := 21) (v := undef) rfl (by kernel_rfl) (by kernel_rfl) (by kernel_rfl) (fun _ _ _ h => nomatch h.1) (Or.inr ⟨by kernel_rfl, rfl⟩) hHeld0 ?_
                try simp only [Act.put, jA, jB, jC, jD, jE, jF]
                refine wpAnyH_take (i := 22) (v := undef) rfl (by kernel_rfl) (by kernel_rfl) (by kernel_rfl) (fun _ _ _ h => nomatch h.1) (Or.inr ⟨by kernel_rfl, rfl⟩) hHeld0 ?_
                try simp only [Act.put, jA, jB, jC, jD, jE, jF]
                refine wpAnyH_take (i := 23) (v := undef) rfl (by kernel_rfl) (by kernel_rfl) (by kernel_rfl) (fun _ _ _ h => nomatch h.1) (Or.inr ⟨by kernel_rfl, rfl⟩) hHeld0 ?_
                try simp only [Act.put, jA, jB, jC, jD, jE, jF]
                refine wpAnyH_take (i := 24) (v := undef) rfl (by kernel_rfl) (by kernel_rfl) (by kernel_rfl) (fun _ _ _ h => nomatch h.1) (Or.inr ⟨by kernel_rfl, rfl⟩) hHeld0 ?_
                try simp only [Act.put, jA, jB, jC, jD, jE, jF]
                refine wpAnyH_take (i := 25) (v := undef) rfl (by kernel_rfl) (by kernel_rfl) (by kernel_rfl) (fun _ _ _ h => nomatch h.1) (Or.inr ⟨by kernel_rfl, rfl⟩) hHeld0 ?_
                try simp only [Act.put, jA, jB, jC, jD, jE, jF]
                refine wpAnyH_take (i := 26) (v := ?vg50) rfl (by kernel_rfl) (by kernel_rfl) (by kernel_rfl) (fun _ _ _ h => nomatch h.1) (Or.inl ⟨by kernel_rfl, ?yg50⟩) hHeld0 ?rg50
                case yg50 => (intro w' hS; (try dsimp only at hS); obtain ⟨s0, s1, s2, s3⟩ := hS; (try go_simp); (try with_reducible rfl))
                try simp only [Act.put, jA, jB, jC, jD, jE, jF]
                refine wpAnyH_done (by kernel_rfl) ?_ _
                have hv : bad1 k j a b = false := by rw [B1.out, en0]; rfl
                refine ⟨rfl, hb0, ?_⟩
                rw [hv]
                exact cut_ex (by kernel_rfl)
            case rest11 =>
              intro x W3 hc3
              by_cases hv1 : bad1 k j a b = true
              · have hx : Hid (allOrd f 0 f = false) := by rw [Hid, hT2.out, show rowOrd k a 0 f = false from by rw [hU2.out, if_pos (Or.inl hv1)]]; rfl
                rw [hv1]
                go_wp2
                go_ret
                exact ⟨ret_bool (by rw [hfin.out, hx.out]), hb1.trans ((hcl _ hc3).mono hb1.size)⟩
              · rw [show bad1 k j a b = false from by simpa using hv1]
                have hbz : Below W2.heap.size W2 W3.drew := hc3.drew
                go_wp2
                refine wp_cut (fun x => { tmps := #[Value.slice (some ⟨g, o, none⟩) 4 c, undef, x 2, Value.int .i64 (k : Int), Value.int .i64 (j : Int), Value.pointer (some ⟨wr.heap.size, 0, none⟩), Value.pointer (some ⟨wr.heap.size + 1, 0, none⟩), Value.slice (some ⟨g, o, none⟩) 4 c, Value.bool true, Value.bool false, Value.int .i64 (k : Int), Value.slice (some ⟨g, o, none⟩) 4 c, Value.int .i64 4, Value.bool true, u14, u15, x 16, x 17, x 18, x 19, x 20, x 21, x 22, x 23, x 24, x 25, x 26, x 27, x 28, x 29, x 30, x 31, x 32, x 33, x 34, x 35, x 36, x 37, x 38, x 39, x 40, x 41, x 42, x 43, x 44, x 45, x 46, x 47, x 48, x 49, x 50, x 51, x 52, x 53, x 54, x 55, Value.bool false, x 57, x 58, x 59, x 60, x 61, x 62, x 63, x 64, x 65, x 66, x 67, x 68, x 69, x 70, x 71, x 72, x 73, x 74, x 75, x 76, x 77, x 78, x 79, x 80, x 81, x 82, x 83, x 84, x 85, x 86, x 87, x 88, x 89, x 90, Value.bool (bad2 k j a b)], defers := [] }) (fun X => Below W2.heap.size W2 X) ?reg13 ?rest13
                case reg13 =>
                  refine wp_region_held_drew (S := fun X => X.cell? ⟨wr.heap.size, 0, none⟩ = some (.slice Z a.pages.length cz) ∧ X.cell? ⟨wr.heap.size, 1, none⟩ = some (.int .i64 a.worn) ∧ X.cell? ⟨wr.heap.size + 1, 0, none⟩ = some (.slice Y b.pages.length cy) ∧ X.cell? ⟨wr.heap.size + 1, 1, none⟩ = some (.int .i64 b.worn)) (by kernel_rfl) (SS.out _ hbz) (fun hHeld0 => ?_)
                  refine wpAnyH_take (i := 0) (v := ?vh1) rfl (by kernel_rfl) (by kernel_rfl) (by kernel_rfl) (fun _ _ _ h => nomatch h.1) (Or.inl ⟨by kernel_rfl, ?yh1⟩) hHeld0 ?rh1
                  case yh1 => (intro w' hS; (try dsimp only at hS); obtain ⟨s0, s1, s2, s3⟩ := hS; (try go_simp); (try with_reducible rfl))
                  try simp only [Act.put, jA, jB, jC, jD, jE, jF]
                  refine wpAnyH_take (i := 1) (v := ?vh2) rfl (by kernel_rfl) (by kernel_rfl) (by kernel_rfl) (fun _ _ _ h => nomatch h.1) (Or.inl ⟨by kernel_rfl, ?yh2⟩) hHeld0 ?rh2
                  case yh2 => (intro w' hS; (try dsimp only at hS); obtain ⟨s0, s1, s2, s3⟩ := hS; (try go_simp); (try with_reducible rfl))
                  try simp only [Act.put, jA, jB, jC, jD, jE, jF]
                  by_cases n0 : k ≠ j
                  · have dn0 : ((k : Int) != (j : Int)) = true := by rw [bne_iff_ne]; omega
                    have en0 : decide (k ≠ j) = true := decide_eq_true n0
                    refine wpAnyH_take (i := 2) (v := ?vh3) rfl (by kernel_rfl) (by kernel_rfl) (by kernel_rfl) (fun _ _ _ h => nomatch h.1) (Or.inl ⟨by kernel_rfl, ?yh3⟩) hHeld0 ?rh3
                    case yh3 => (intro w' hS; (try dsimp only at hS); obtain ⟨s0, s1, s2, s3⟩ := hS; (try go_simp); (try with_reducible rfl))
                    try simp only [Act.put, jA, jB, jC, jD, jE, jF]
                    refine wpAnyH_take (i := 3) (v := ?vh4) rfl (by kernel_rfl) (by kernel_rfl) (by kernel_rfl) (fun _ _ _ h => nomatch h.1) (Or.inl ⟨by kernel_rfl, ?yh4⟩) hHeld0 ?rh4
                    case yh4 => (intro w' hS; (try dsimp only at hS); obtain ⟨s0, s1, s2, s3⟩ := hS; (try go_simp); (try with_reducible rfl))
                    try simp only [Act.put, jA, jB, jC, jD, jE, jF]
                    refine wpAnyH_take (i := 4) (v := ?vh5) rfl (by kernel_rfl) (by kernel_rfl) (by kernel_rfl) (fun _ _ _ h => nomatch h.1) (Or.inl ⟨by kernel_rfl, ?yh5⟩) hHeld0 ?rh5
                    case yh5 => (intro w' hS; (try dsimp only at hS); obtain ⟨s0, s1, s2, s3⟩ := hS; (try go_simp); (try with_reducible rfl))
                    try simp only [Act.put, jA, jB, jC, jD, jE, jF]
                    refine wpAnyH_ready (rs := [5]) (by kernel_rfl) (by simp) ?_
                    refine AllReadyH.cons rfl (fun K hK => ?_) AllReadyH.nil
                    go_simp
                    refine (CA.out _ hbz).mono ?_
                    rintro e x1 ⟨rfl, hc1⟩
                    have hb1 := hbz.trans (hc1.mono hbz.size)
                    clear hc1
                    go_wp2_with fail
                    refine hK.out _ _ (SS.out _ hb1) (fun hHeld1 => ?_)
                    clear hK K
                    try simp only [Act.put, jA, jB, jC, jD, jE, jF]
                    by_cases n1 : 0 < ca
                    · have dn1 : decide (0 < ca) = true := decide_eq_true n1
                      refine wpAnyH_take (i := 6) (v := ?vh6) rfl (by kernel_rfl) (by kernel_rfl) (by kernel_rfl) (fun _ _ _ h => nomatch h.1) (Or.inl ⟨by kernel_rfl, ?yh6⟩) hHeld1 ?rh6
                      case yh6 => (intro w' hS; (try dsimp only at hS); obtain ⟨s0, s1, s2, s3⟩ := hS; (try go_simp); (try with_reducible rfl))
                      try simp only [Act.put, jA, jB, jC, jD, jE, jF]
                      refine wpAnyH_take (i := 7) (v := ?vh7) rfl (by kernel_rfl) (by kernel_rfl) (by kernel_rfl) (fun _ _ _ h => nomatch h.1) (Or.inl ⟨by kernel_rfl, ?yh7⟩) hHeld1 ?rh7
                      case yh7 => (intro w' hS; (try dsimp only at hS); obtain ⟨s0, s1, s2, s3⟩ := hS; (try go_simp); (try with_reducible rfl))
                      try simp only [Act.put, jA, jB, jC, jD, jE, jF]
                      refine wpAnyH_take (i := 8) (v := ?vh8) rfl (by kernel_rfl) (by kernel_rfl) (by kernel_rfl) (fun _ _ _ h => nomatch h.1) (Or.inl ⟨by kernel_rfl, ?yh8⟩) hHeld1 ?rh8
                      case yh8 => (intro w' hS; (try dsimp only at hS); obtain ⟨s0, s1, s2, s3⟩ := hS; (try go_simp); (try with_reducible rfl))
                      try simp only [Act.put, jA, jB, jC, jD, jE, jF]
                      refine wpAnyH_take (i := 9) (v := ?vh9) rfl (by kernel_rfl) (by kernel_rfl) (by kernel_rfl) (fun _ _ _ h => nomatch h.1) (Or.inl ⟨by kernel_rfl, ?yh9⟩) hHeld1 ?rh9
                      case yh9 => (intro w' hS; (try dsimp only at hS); obtain ⟨s0, s1, s2, s3⟩ := hS; (try go_simp); (try with_reducible rfl))
                      try simp only [Act.put, jA, jB, jC, jD, jE, jF]
                      refine wpAnyH_ready (rs := [10]) (by kernel_rfl) (by simp) ?_
                      refine AllReadyH.cons rfl (fun K hK => ?_) AllReadyH.nil
                      go_simp
                      refine (CA.out _ hb1).mono ?_
                      rintro e x2 ⟨rfl, hc2⟩
                      have hb2 := hb1.trans (hc2.mono hb1.size)
                      clear hc2
                      go_wp2_with fail
                      refine hK.out _ _ (SS.out _ hb2) (fun hHeld2 => ?_)
                      clear hK K
                      try simp only [Act.put, jA, jB, jC, jD, jE, jF]
                      by_cases n2 : ca < 4
                      · have dn2 : decide (ca < 4) = true := decide_eq_true n2
                        refine wpAnyH_take (i := 11) (v := ?vh10) rfl (by kernel_rfl) (by kernel_rfl) (by kernel_rfl) (fun _ _ _ h => nomatch h.1) (Or.inl ⟨by kernel_rfl, ?yh10⟩) hHeld2 ?rh10
                        case yh10 => (intro w' hS; (try dsimp only at hS); obtain ⟨s0, s1, s2, s3⟩ := hS; (try go_simp); (try with_reducible rfl))
                        try simp only [Act.put, jA, jB, jC, jD, jE, jF]
                        refine wpAnyH_take (i := 12) (v := ?vh11) rfl (by kernel_rfl) (by kernel_rfl) (by kernel_rfl) (fun _ _ _ h => nomatch h.1) (Or.inl ⟨by kernel_rfl, ?yh11⟩) hHeld2 ?rh11
                        case yh11 => (intro w' hS; (try dsimp only at hS); obtain ⟨s0, s1, s2, s3⟩ := hS; (try go_simp); (try with_reducible rfl))
                        try simp only [Act.put, jA, jB, jC, jD, jE, jF]
                        refine wpAnyH_take (i := 13) (v := ?vh12) rfl (by kernel_rfl) (by kernel_rfl) (by kernel_rfl) (fun _ _ _ h => nomatch h.1) (Or.inl ⟨by kernel_rfl, ?yh12⟩) hHeld2 ?rh12
                        case yh12 => (intro w' hS; (try dsimp only at hS); obtain ⟨s0, s1, s2, s3⟩ := hS; (try go_simp); (try with_reducible rfl))
                        try simp only [Act.put, jA, jB, jC, jD, jE, jF]
                        refine wpAnyH_take (i := 14) (v := ?vh13) rfl (by kernel_rfl) (by kernel_rfl) (by kernel_rfl) (fun _ _ _ h => nomatch h.1) (Or.inl ⟨by kernel_rfl, ?yh13⟩) hHeld2 ?rh13
                        case yh13 => (intro w' hS; (try dsimp only at hS); obtain ⟨s0, s1, s2, s3⟩ := hS; (try go_simp); (try with_reducible rfl))
                        try simp only [Act.put, jA, jB, jC, jD, jE, jF]
                        refine wpAnyH_ready (rs := [15]) (by kernel_rfl) (by simp) ?_
                        refine AllReadyH.cons rfl (fun K hK => ?_) AllReadyH.nil
                        go_simp
                        refine (CB.out _ hb2).mono ?_
                        rintro e x3 ⟨rfl, hc3⟩
                        have hb3 := hb2.trans (hc3.mono hb2.size)
                        clear hc3
                        go_wp2_with fail
                        refine hK.out _ _ (SS.out _ hb3) (fun hHeld3 => ?_)
                        clear hK K
                        try simp only [Act.put, jA, jB, jC, jD, jE, jF]
                        by_cases n3 : 0 < cb
                        · have dn3 : decide (0 < cb) = true := decide_eq_true n3
                          refine wpAnyH_take (i := 16) (v := ?vh14) rfl (by kernel_rfl) (by kernel_rfl) (by kernel_rfl) (fun _ _ _ h => nomatch h.1) (Or.inl ⟨by kernel_rfl, ?yh14⟩) hHeld3 ?rh14
                          case yh14 => (intro w' hS; (try dsimp only at hS); obtain ⟨s0, s1, s2, s3⟩ := hS; (try go_simp); (try with_reducible rfl))
                          try simp only [Act.put, jA, jB, jC, jD, jE, jF]
                          refine wpAnyH_take (i := 17) (v := ?vh15) rfl (by kernel_rfl) (by kernel_rfl) (by kernel_rfl) (fun _ _ _ h => nomatch h.1) (Or.inl ⟨by kernel_rfl, ?yh15⟩) hHeld3 ?rh15
                          case yh15 => (intro w' hS; (try dsimp only at hS); obtain ⟨s0, s1, s2, s3⟩ := hS; (try go_simp); (try with_reducible rfl))
                          try simp only [Act.put, jA, jB, jC, jD, jE, jF]
                          refine wpAnyH_take (i := 18) (v := ?vh16) rfl (by kernel_rfl) (by kernel_rfl) (by kernel_rfl) (fun _ _ _ h => nomatch h.1) (Or.inl ⟨by kernel_rfl, ?yh16⟩) hHeld3 ?rh16
                          case yh16 => (intro w' hS; (try dsimp only at hS); obtain ⟨s0, s1, s2, s3⟩ := hS; (try go_simp); (try with_reducible rfl))
                          try simp only [Act.put, jA, jB, jC, jD, jE, jF]
                          refine wpAnyH_ready (rs := [19]) (by kernel_rfl) (by simp) ?_
                          refine AllReadyH.cons rfl (fun K hK => ?_) AllReadyH.nil
                          go_simp
                          refine (CB.out _ hb3).mono ?_
                          rintro e x4 ⟨rfl, hc4⟩
                          have hb4 := hb3.trans (hc4.mono hb3.size)
                          clear hc4
                          go_wp2_with fail
                          refine hK.out _ _ (SS.out _ hb4) (fun hHeld4 => ?_)
                          clear hK K
                          try simp only [Act.put, jA, jB, jC, jD, jE, jF]
                          by_cases n4 : cb < 4
                          · have dn4 : decide (cb < 4) = true := decide_eq_true n4
                            refine wpAnyH_take (i := 20) (v := ?vh17) rfl (by kernel_rfl) (by kernel_rfl) (by kernel_rfl) (fun _ _ _ h => nomatch h.1) (Or.inl ⟨by kernel_rfl, ?yh17⟩) hHeld4 ?rh17
                            case yh17 => (intro w' hS; (try dsimp only at hS); obtain ⟨s0, s1, s2, s3⟩ := hS; (try go_simp); (try with_reducible rfl))
                            try simp only [Act.put, jA, jB, jC, jD, jE, jF]
                            refine wpAnyH_take (i := 21) (v := ?vh18) rfl (by kernel_rfl) (by kernel_rfl) (by kernel_rfl) (fun _ _ _ h => nomatch h.1) (Or.inl ⟨by kernel_rfl, ?yh18⟩) hHeld4 ?rh18
                            case yh18 => (intro w' hS; (try dsimp only at hS); obtain ⟨s0, s1, s2, s3⟩ := hS; (try go_simp); (try with_reducible rfl))
                            try simp only [Act.put, jA, jB, jC, jD, jE, jF]
                            refine wpAnyH_take (i := 22) (v := ?vh19) rfl (by kernel_rfl) (by kernel_rfl) (by kernel_rfl) (fun _ _ _ h => nomatch h.1) (Or.inl ⟨by kernel_rfl, ?yh19⟩) hHeld4 ?rh19
                            case yh19 => (intro w' hS; (try dsimp only at hS); obtain ⟨s0, s1, s2, s3⟩ := hS; (try go_simp); (try with_reducible rfl))
                            try simp only [Act.put, jA, jB, jC, jD, jE, jF]
                            refine wpAnyH_take (i := 23) (v := undef) rfl (by kernel_rfl) (by kernel_rfl) (by kernel_rfl) (fun _ _ _ h => nomatch h.1) (Or.inr ⟨by kernel_rfl, rfl⟩) hHeld4 ?_
                            try simp only [Act.put, jA, jB, jC, jD, jE, jF]
                            refine wpAnyH_take (i := 24) (v := undef) rfl (by kernel_rfl) (by kernel_rfl) (by kernel_rfl) (fun _ _ _ h => nomatch h.1) (Or.inr ⟨by kernel_rfl, rfl⟩) hHeld4 ?_
                            try simp only [Act.put, jA, jB, jC, jD, jE, jF]
                            refine wpAnyH_take (i := 25) (v := undef) rfl (by kernel_rfl) (by kernel_rfl) (by kernel_rfl) (fun _ _ _ h => nomatch h.1) (Or.inr ⟨by kernel_rfl, rfl⟩) hHeld4 ?_
                            try simp only [Act.put, jA, jB, jC, jD, jE, jF]
                            refine wpAnyH_take (i := 26) (v := undef) rfl (by kernel_rfl) (by kernel_rfl) (by kernel_rfl) (fun _ _ _ h => nomatch h.1) (Or.inr ⟨by kernel_rfl, rfl⟩) hHeld4 ?_
                            try simp only [Act.put, jA, jB, jC, jD, jE, jF]
                            refine wpAnyH_take (i := 27) (v := undef) rfl (by kernel_rfl) (by kernel_rfl) (by kernel_rfl) (fun _ _ _ h => nomatch h.1) (Or.inr ⟨by kernel_rfl, rfl⟩) hHeld4 ?_
                            try simp only [Act.put, jA, jB, jC, jD, jE, jF]
                            refine wpAnyH_take (i := 28) (v := undef) rfl (by kernel_rfl) (by kernel_rfl) (by kernel_rfl) (fun _ _ _ h => nomatch h.1) (Or.inr ⟨by kernel_rfl, rfl⟩) hHeld4 ?_
                            try simp only [Act.put, jA, jB, jC, jD, jE, jF]
                            refine wpAnyH_take (i := 29) (v := undef) rfl (by kernel_rfl) (by kernel_rfl) (by kernel_rfl) (fun _ _ _ h => nomatch h.1) (Or.inr ⟨by kernel_rfl, rfl⟩) hHeld4 ?_
                            try simp only [Act.put, jA, jB, jC, jD, jE, jF]
                            refine wpAnyH_take (i := 30) (v := undef) rfl (by kernel_rfl) (by kernel_rfl) (by kernel_rfl) (fun _ _ _ h => nomatch h.1) (Or.inr ⟨by kernel_rfl, rfl⟩) hHeld4 ?_
                            try simp only [Act.put, jA, jB, jC, jD, jE, jF]
                            refine wpAnyH_take (i := 31) (v := undef) rfl (by kernel_rfl) (by kernel_rfl) (by kernel_rfl) (fun _ _ _ h => nomatch h.1) (Or.inr ⟨by kernel_rfl, rfl⟩) hHeld4 ?_
                            try simp only [Act.put, jA, jB, jC, jD, jE, jF]
                            refine wpAnyH_take (i := 32) (v := undef) rfl (by kernel_rfl) (by kernel_rfl) (by kernel_rfl) (fun _ _ _ h => nomatch h.1) (Or.inr ⟨by kernel_rfl, rfl⟩) hHeld4 ?_
                            try simp only [Act.put, jA, jB, jC, jD, jE, jF]
                            refine wpAnyH_take (i := 33) (v := ?vh20) rfl (by kernel_rfl) (by kernel_rfl) (by kernel_rfl) (fun _ _ _ h => nomatch h.1) (Or.inl ⟨by kernel_rfl, ?yh20⟩) hHeld4 ?rh20
                            case yh20 => (intro w' hS; (try dsimp only at hS); obtain ⟨s0, s1, s2, s3⟩ := hS; (try go_simp); (try with_reducible rfl))
                            try simp only [Act.put, jA, jB, jC, jD, jE, jF]
                            refine wpAnyH_take (i := 34) (v := ?vh21) rfl (by kernel_rfl) (by kernel_rfl) (by kernel_rfl) (fun _ _ _ h => nomatch h.1) (Or.inl ⟨by kernel_rfl, ?yh21⟩) hHeld4 ?rh21
                            case yh21 => (intro w' hS; (try dsimp only at hS); obtain ⟨s0, s1, s2, s3⟩ := hS; (try go_simp); (try with_reducible rfl))
                            try simp only [Act.put, jA, jB, jC, jD, jE, jF]
                            refine wpAnyH_done (by kernel_rfl) ?_ _
                            have hv : bad2 k j a b = true := by rw [B2.out, en0, dn1, dn2, dn3, dn4]; rfl
                            refine ⟨rfl, hb4, ?_⟩
                            rw [hv]
                            exact cut_ex (by kernel_rfl)
                          · have dn4 : decide (cb < 4) = false := decide_eq_false n4
                            refine wpAnyH_take (i := 20) (v := ?vh22) rfl (by kernel_rfl) (by kernel_rfl) (by kernel_rfl) (fun _ _ _ h => nomatch h.1) (Or.inl ⟨by kernel_rfl, ?yh22⟩) hHeld4 ?rh22
                            case yh22 => (intro w' hS; (try dsimp only at hS); obtain ⟨s0, s1, s2, s3⟩ := hS; (try go_simp); (try with_reducible rfl))
                            try simp only [Act.put, jA, jB, jC, jD, jE, jF]
                            refine wpAnyH_take (i := 21) (v := ?vh23) rfl (by kernel_rfl) (by kernel_rfl) (by kernel_rfl) (fun _ _ _ h => nomatch h.1) (Or.inl ⟨by kernel_rfl, ?yh23⟩) hHeld4 ?rh23
                            case yh23 => (intro w' hS; (try dsimp only at hS); obtain ⟨s0, s1, s2, s3⟩ := hS; (try go_simp); (try with_reducible rfl))
                            try simp only [Act.put, jA, jB, jC, jD, jE, jF]
                            refine wpAnyH_take (i := 22) (v := ?vh24) rfl (by kernel_rfl) (by kernel_rfl) (by kernel_rfl) (fun _ _ _ h => nomatch h.1) (Or.inl ⟨by kernel_rfl, ?yh24⟩) hHeld4 ?rh24
                            case yh24 => (intro w' hS; (try dsimp only at hS); obtain ⟨s0, s1, s2, s3⟩ := hS; (try go_simp); (try with_reducible rfl))
                            try simp only [Act.put, jA, jB, jC, jD, jE, jF]
                            refine wpAnyH_take (i := 23) (v := ?vh25) rfl (by kernel_rfl) (by kernel_rfl) (by kernel_rfl) (fun _ _ _ h => nomatch h.1) (Or.inl ⟨by kernel_rfl, ?yh25⟩) hHeld4 ?rh25
                            case yh25 => (intro w' hS; (try dsimp only at hS); obtain ⟨s0, s1, s2, s3⟩ := hS; (try go_simp); (try with_reducible rfl))
                            try simp only [Act.put, jA, jB, jC, jD, jE, jF]
                            refine wpAnyH_ready (rs := [24]) (by kernel_rfl) (by simp) ?_
                            refine AllReadyH.cons rfl (fun K hK => ?_) AllReadyH.nil
                            go_simp
                            refine (MA.out _ hb4).mono ?_
                            rintro e x5 ⟨rfl, hc5⟩
                            have hb5 := hb4.trans (hc5.mono hb4.size)
                            clear hc5
                            go_wp2_with fail
                            refine hK.out _ _ (SS.out _ hb5) (fun hHeld5 => ?_)
                            clear hK K
                            try simp only [Act.put, jA, jB, jC, jD, jE, jF]
                            by_cases n5 : 0 < ma
                            · have dn5 : decide (0 < ma) = true := decide_eq_true n5
                              refine wpAnyH_take (i := 25) (v := ?vh26) rfl (by kernel_rfl) (by kernel_rfl) (by kernel_rfl) (fun _ _ _ h => nomatch h.1) (Or.inl ⟨by kernel_rfl, ?yh26⟩) hHeld5 ?rh26
                              case yh26 => (intro w' hS; (try dsimp only at hS); obtain ⟨s0, s1, s2, s3⟩ := hS; (try go_simp); (try with_reducible rfl))
                              try simp only [Act.put, jA, jB, jC, jD, jE, jF]
                              refine wpAnyH_take (i := 26) (v := ?vh27) rfl (by kernel_rfl) (by kernel_rfl) (by kernel_rfl) (fun _ _ _ h => nomatch h.1) (Or.inl ⟨by kernel_rfl, ?yh27⟩) hHeld5 ?rh27
                              case yh27 => (intro w' hS; (try dsimp only at hS); obtain ⟨s0, s1, s2, s3⟩ := hS; (try go_simp); (try with_reducible rfl))
                              try simp only [Act.put, jA, jB, jC, jD, jE, jF]
                              refine wpAnyH_take (i := 27) (v := ?vh28) rfl (by kernel_rfl) (by kernel_rfl) (by kernel_rfl) (fun _ _ _ h => nomatch h.1) (Or.inl ⟨by kernel_rfl, ?yh28⟩) hHeld5 ?rh28
                              case yh28 => (intro w' hS; (try dsimp only at hS); obtain ⟨s0, s1, s2, s3⟩ := hS; (try go_simp); (try with_reducible rfl))
                              try simp only [Act.put, jA, jB, jC, jD, jE, jF]
                              refine wpAnyH_take (i := 29) (v := ?vh29) rfl (by kernel_rfl) (by kernel_rfl) (by kernel_rfl) (fun _ _ _ h => nomatch h.1) (Or.inl ⟨by kernel_rfl, ?yh29⟩) hHeld5 ?rh29
                              case yh29 => (intro w' hS; (try dsimp only at hS); obtain ⟨s0, s1, s2, s3⟩ := hS; (try go_simp); (try with_reducible rfl))
                              try simp only [Act.put, jA, jB, jC, jD, jE, jF]
                              refine wpAnyH_ready (rs := [28]) (by kernel_rfl) (by simp) ?_
                              refine AllReadyH.cons rfl (fun K hK => ?_) AllReadyH.nil
                              go_simp
                              refine (MB.out _ hb5).mono ?_
                              rintro e x6 ⟨rfl, hc6⟩
                              have hb6 := hb5.trans (hc6.mono hb5.size)
                              clear hc6
                              go_wp2_with fail
                              refine hK.out _ _ (SS.out _ hb6) (fun hHeld6 => ?_)
                              clear hK K
                              try simp only [Act.put, jA, jB, jC, jD, jE, jF]
                              refine wpAnyH_ready (rs := [30]) (by kernel_rfl) (by simp) ?_
                              refine AllReadyH.cons rfl (fun K hK => ?_) AllReadyH.nil
                              go_simp
                              refine (MA.out _ hb6).mono ?_
                              rintro e x7 ⟨rfl, hc7⟩
                              have hb7 := hb6.trans (hc7.mono hb6.size)
                              clear hc7
                              go_wp2_with fail
                              refine hK.out _ _ (SS.out _ hb7) (fun hHeld7 => ?_)
                              clear hK K
                              try simp only [Act.put, jA, jB, jC, jD, jE, jF]
                              by_cases n6 : ma < mb
                              · have dn6 : decide (ma < mb) = true := decide_eq_true n6
                                refine wpAnyH_take (i := 31) (v := ?vh30) rfl (by kernel_rfl) (by kernel_rfl) (by kernel_rfl) (fun _ _ _ h => nomatch h.1) (Or.inl ⟨by kernel_rfl, ?yh30⟩) hHeld7 ?rh30
                                case yh30 => (intro w' hS; (try dsimp only at hS); obtain ⟨s0, s1, s2, s3⟩ := hS; (try go_simp); (try with_reducible rfl))
                                try simp only [Act.put, jA, jB, jC, jD, jE, jF]
                                refine wpAnyH_take (i := 32) (v := ?vh31) rfl (by kernel_rfl) (by kernel_rfl) (by kernel_rfl) (fun _ _ _ h => nomatch h.1) (Or.inl ⟨by kernel_rfl, ?yh31⟩) hHeld7 ?rh31
                                case yh31 => (intro w' hS; (try dsimp only at hS); obtain ⟨s0, s1, s2, s3⟩ := hS; (try go_simp); (try with_reducible rfl))
                                try simp only [Act.put, jA, jB, jC, jD, jE, jF]
                                refine wpAnyH_take (i := 33) (v := ?vh32) rfl (by kernel_rfl) (by kernel_rfl) (by kernel_rfl) (fun _ _ _ h => nomatch h.1) (Or.inl ⟨by kernel_rfl, ?yh32⟩) hHeld7 ?rh32
                                case yh32 => (intro w' hS; (try dsimp only at hS); obtain ⟨s0, s1, s2, s3⟩ := hS; (try go_simp); (try with_reducible rfl))
                                try simp only [Act.put, jA, jB, jC, jD, jE, jF]
                                refine wpAnyH_take (i := 34) (v := ?vh33) rfl (by kernel_rfl) (by kernel_rfl) (by kernel_rfl) (fun _ _ _ h => nomatch h.1) (Or.inl ⟨by kernel_rfl, ?yh33⟩) hHeld7 ?rh33
                                case yh33 => (intro w' hS; (try dsimp only at hS); obtain ⟨s0, s1, s2, s3⟩ := hS; (try go_simp); (try with_reducible rfl))
                                try simp only [Act.put, jA, jB, jC, jD, jE, jF]
                                refine wpAnyH_done (by kernel_rfl) ?_ _
                                have hv : bad2 k j a b = true := by rw [B2.out, en0, dn1, dn2, dn3, dn4, dn5, dn6]; rfl
                                refine ⟨rfl, hb7, ?_⟩
                                rw [hv]
                                exact cut_ex (by kernel_rfl)
                              · have dn6 : decide (ma < mb) = false := decide_eq_false n6
                                refine wpAnyH_take (i := 31) (v := ?vh34) rfl (by kernel_rfl) (by kernel_rfl) (by kernel_rfl) (fun _ _ _ h => nomatch h.1) (Or.inl ⟨by kernel_rfl, ?yh34⟩) hHeld7 ?rh34
                                case yh34 => (intro w' hS; (try dsimp only at hS); obtain ⟨s0, s1, s2, s3⟩ := hS; (try go_simp); (try with_reducible rfl))
                                try simp only [Act.put, jA, jB, jC, jD, jE, jF]
                                refine wpAnyH_take (i := 32) (v := ?vh35) rfl (by kernel_rfl) (by kernel_rfl) (by kernel_rfl) (fun _ _ _ h => nomatch h.1) (Or.inl ⟨by kernel_rfl, ?yh35⟩) hHeld7 ?rh35
                                case yh35 => (intro w' hS; (try dsimp only at hS); obtain ⟨s0, s1, s2, s3⟩ := hS; (try go_simp); (try with_reducible rfl))
                                try simp only [Act.put, jA, jB, jC, jD, jE, jF]
                                refine wpAnyH_take (i := 33) (v := ?vh36) rfl (by kernel_rfl) (by kernel_rfl) (by kernel_rfl) (fun _ _ _ h => nomatch h.1) (Or.inl ⟨by kernel_rfl, ?yh36⟩) hHeld7 ?rh36
                                case yh36 => (intro w' hS; (try dsimp only at hS); obtain ⟨s0, s1, s2, s3⟩ := hS; (try go_simp); (try with_reducible rfl))
                                try simp only [Act.put, jA, jB, jC, jD, jE, jF]
                                refine wpAnyH_take (i := 34) (v := ?vh37) rfl (by kernel_rfl) (by kernel_rfl) (by kernel_rfl) (fun _ _ _ h => nomatch h.1) (Or.inl ⟨by kernel_rfl, ?yh37⟩) hHeld7 ?rh37
                                case yh37 => (intro w' hS; (try dsimp only at hS); obtain ⟨s0, s1, s2, s3⟩ := hS; (try go_simp); (try with_reducible rfl))
                                try simp only [Act.put, jA, jB, jC, jD, jE, jF]
                                refine wpAnyH_done (by kernel_rfl) ?_ _
                                have hv : bad2 k j a b = false := by rw [B2.out, en0, dn1, dn2, dn3, dn4, dn5, dn6]; rfl
                                refine ⟨rfl, hb7, ?_⟩
                                rw [hv]
                                exact cut_ex (by kernel_rfl)
                            · have dn5 : decide (0 < ma) = false := decide_eq_false n5
                              refine wpAnyH_take (i := 25) (v := ?vh38) rfl (by kernel_rfl) (by kernel_rfl) (by kernel_rfl) (fun _ _ _ h => nomatch h.1) (Or.inl ⟨by kernel_rfl, ?yh38⟩) hHeld5 ?rh38
                              case yh38 => (intro w' hS; (try dsimp only at hS); obtain ⟨s0, s1, s2, s3⟩ := hS; (try go_simp); (try with_reducible rfl))
                              try simp only [Act.put, jA, jB, jC, jD, jE, jF]
                              refine wpAnyH_take (i := 26) (v := ?vh39) rfl (by kernel_rfl) (by kernel_rfl) (by kernel_rfl) (fun _ _ _ h => nomatch h.1) (Or.inl ⟨by kernel_rfl, ?yh39⟩) hHeld5 ?rh39
                              case yh39 => (intro w' hS; (try dsimp only at hS); obtain ⟨s0, s1, s2, s3⟩ := hS; (try go_simp); (try with_reducible rfl))
                              try simp only [Act.put, jA, jB, jC, jD, jE, jF]
                              refine wpAnyH_take (i := 27) (v := undef) rfl (by kernel_rfl) (by kernel_rfl) (by kernel_rfl) (fun _ _ _ h => nomatch h.1) (Or.inr ⟨by kernel_rfl, rfl⟩) hHeld5 ?_
                              try simp only [Act.put, jA, jB, jC, jD, jE, jF]
                              refine wpAnyH_take (i := 28) (v := undef) rfl (by kernel_rfl) (by kernel_rfl) (by kernel_rfl) (fun _ _ _ h => nomatch h.1) (Or.inr ⟨by kernel_rfl, rfl⟩) hHeld5 ?_
                              try simp only [Act.put, jA, jB, jC, jD, jE, jF]
                              refine wpAnyH_take (i := 29) (v := undef) rfl (by kernel_rfl) (by kernel_rfl) (by kernel_rfl) (fun _ _ _ h => nomatch h.1) (Or.inr ⟨by kernel_rfl, rfl⟩) hHeld5 ?_
                              try simp only [Act.put, jA, jB, jC, jD, jE, jF]
                              refine wpAnyH_take (i := 30) (v := undef) rfl (by kernel_rfl) (by kernel_rfl) (by kernel_rfl) (fun _ _ _ h => nomatch h.1) (Or.inr ⟨by kernel_rfl, rfl⟩) hHeld5 ?_
                              try simp only [Act.put, jA, jB, jC, jD, jE, jF]
                              refine wpAnyH_take (i := 31) (v := undef) rfl (by kernel_rfl) (by kernel_rfl) (by kernel_rfl) (fun _ _ _ h => nomatch h.1) (Or.inr ⟨by kernel_rfl, rfl⟩) hHeld5 ?_
                              try simp only [Act.put, jA, jB, jC, jD, jE, jF]
                              refine wpAnyH_take (i := 32) (v := ?vh40) rfl (by kernel_rfl) (by kernel_rfl) (by kernel_rfl) (fun _ _ _ h => nomatch h.1) (Or.inl ⟨by kernel_rfl, ?yh40⟩) hHeld5 ?rh40
                              case yh40 => (intro w' hS; (try dsimp only at hS); obtain ⟨s0, s1, s2, s3⟩ := hS; (try go_simp); (try with_reducible rfl))
                              try simp only [Act.put, jA, jB, jC, jD, jE, jF]
                              refine wpAnyH_take (i := 33) (v := ?vh41) rfl (by kernel_rfl) (by kernel_rfl) (by kernel_rfl) (fun _ _ _ h => nomatch h.1) (Or.inl ⟨by kernel_rfl, ?yh41⟩) hHeld5 ?rh41
                              case yh41 => (intro w' hS; (try dsimp only at hS); obtain ⟨s0, s1, s2, s3⟩ := hS; (try go_simp); (try with_reducible rfl))
                              try simp only [Act.put, jA, jB, jC, jD, jE, jF]
                              refine wpAnyH_take (i := 34) (v := ?vh42) rfl (by kernel_rfl) (by kernel_rfl) (by kernel_rfl) (fun _ _ _ h => nomatch h.1) (Or.inl ⟨by kernel_rfl, ?yh42⟩) hHeld5 ?rh42
                              case yh42 => (intro w' hS; (try dsimp only at hS); obtain ⟨s0, s1, s2, s3⟩ := hS; (try go_simp); (try with_reducible rfl))
                              try simp only [Act.put, jA, jB, jC, jD, jE, jF]
                              refine wpAnyH_done (by kernel_rfl) ?_ _
                              have hv : bad2 k j a b = false := by rw [B2.out, en0, dn1, dn2, dn3, dn4, dn5]; rfl
                              refine ⟨rfl, hb5, ?_⟩
                              rw [hv]
                              exact cut_ex (by kernel_rfl)
                        · have dn3 : decide (0 < cb) = false := decide_eq_false n3
                          refine wpAnyH_take (i := 16) (v := ?vh43) rfl (by kernel_rfl) (by kernel_rfl) (by kernel_rfl) (fun _ _ _ h => nomatch h.1) (Or.inl ⟨by kernel_rfl, ?yh43⟩) hHeld3 ?rh43
                          case yh43 => (intro w' hS; (try dsimp only at hS); obtain ⟨s0, s1, s2, s3⟩ := hS; (try go_simp); (try with_reducible rfl))
                          try simp only [Act.put, jA, jB, jC, jD, jE, jF]
                          refine wpAnyH_take (i := 17) (v := ?vh44) rfl (by kernel_rfl) (by kernel_rfl) (by kernel_rfl) (fun _ _ _ h => nomatch h.1) (Or.inl ⟨by kernel_rfl, ?yh44⟩) hHeld3 ?rh44
                          case yh44 => (intro w' hS; (try dsimp only at hS); obtain ⟨s0, s1, s2, s3⟩ := hS; (try go_simp); (try with_reducible rfl))
                          try simp only [Act.put, jA, jB, jC, jD, jE, jF]
                          refine wpAnyH_take (i := 18) (v := undef) rfl (by kernel_rfl) (by kernel_rfl) (by kernel_rfl) (fun _ _ _ h => nomatch h.1) (Or.inr ⟨by kernel_rfl, rfl⟩) hHeld3 ?_
                          try simp only [Act.put, jA, jB, jC, jD, jE, jF]
                          refine wpAnyH_take (i := 19) (v := undef) rfl (by kernel_rfl) (by kernel_rfl) (by kernel_rfl) (fun _ _ _ h => nomatch h.1) (Or.inr ⟨by kernel_rfl, rfl⟩) hHeld3 ?_
                          try simp only [Act.put, jA, jB, jC, jD, jE, jF]
                          refine wpAnyH_take (i := 20) (v := undef) rfl (by kernel_rfl) (by kernel_rfl) (by kernel_rfl) (fun _ _ _ h => nomatch h.1) (Or.inr ⟨by kernel_rfl, rfl⟩) hHeld3 ?_
                          try simp only [Act.put, jA, jB, jC, jD, jE, jF]
                          refine wpAnyH_take (i := 21) (v := ?vh45) rfl (by kernel_rfl) (by kernel_rfl) (by kernel_rfl) (fun _ _ _ h => nomatch h.1) (Or.inl ⟨by kernel_rfl, ?yh45⟩) hHeld3 ?rh45
                          case yh45 => (intro w' hS; (try dsimp only at hS); obtain ⟨s0, s1, s2, s3⟩ := hS; (try go_simp); (try with_reducible rfl))
                          try simp only [Act.put, jA, jB, jC, jD, jE, jF]
                          refine wpAnyH_take (i := 22) (v := ?vh46) rfl (by kernel_rfl) (by kernel_rfl) (by kernel_rfl) (fun _ _ _ h => nomatch h.1) (Or.inl ⟨by kernel_rfl, ?yh46⟩) hHeld3 ?rh46
                          case yh46 => (intro w' hS; (try dsimp only at hS); obtain ⟨s0, s1, s2, s3⟩ := hS; (try go_simp); (try with_reducible rfl))
                          try simp only [Act.put, jA, jB, jC, jD, jE, jF]
                          refine wpAnyH_take (i := 23) (v := ?vh47) rfl (by kernel_rfl) (by kernel_rfl) (by kernel_rfl) (fun _ _ _ h => nomatch h.1) (Or.inl ⟨by kernel_rfl, ?yh47⟩) hHeld3 ?rh47
                          case yh47 => (intro w' hS; (try dsimp only at hS); obtain ⟨s0, s1, s2, s3⟩ := hS; (try go_simp); (try with_reducible rfl))
                          try simp only [Act.put, jA, jB, jC, jD, jE, jF]
                          refine wpAnyH_ready (rs := [24]) (by kernel_rfl) (by simp) ?_
                          refine AllReadyH.cons rfl (fun K hK => ?_) AllReadyH.nil
                          go_simp
                          refine (MA.out _ hb3).mono ?_
                          rintro e x4 ⟨rfl, hc4⟩
                          have hb4 := hb3.trans (hc4.mono hb3.size)
                          clear hc4
                          go_wp2_with fail
                          refine hK.out _ _ (SS.out _ hb4) (fun hHeld4 => ?_)
                          clear hK K
                          try simp only [Act.put, jA, jB, jC, jD, jE, jF]
                          by_cases n5 : 0 < ma
                          · have dn5 : decide (0 < ma) = true := decide_eq_true n5
                            refine wpAnyH_take (i := 25) (v := ?vh48) rfl (by kernel_rfl) (by kernel_rfl) (by kernel_rfl) (fun _ _ _ h => nomatch h.1) (Or.inl ⟨by kernel_rfl, ?yh48⟩) hHeld4 ?rh48
                            case yh48 => (intro w' hS; (try dsimp only at hS); obtain ⟨s0, s1, s2, s3⟩ := hS; (try go_simp); (try with_reducible rfl))
                            try simp only [Act.put, jA, jB, jC, jD, jE, jF]
                            refine wpAnyH_take (i := 26) (v := ?vh49) rfl (by kernel_rfl) (by kernel_rfl) (by kernel_rfl) (fun _ _ _ h => nomatch h.1) (Or.inl ⟨by kernel_rfl, ?yh49⟩) hHeld4 ?rh49
                            case yh49 => (intro w' hS; (try dsimp only at hS); obtain ⟨s0, s1, s2, s3⟩ := hS; (try go_simp); (try with_reducible rfl))
                            try simp only [Act.put, jA, jB, jC, jD, jE, jF]
                            refine wpAnyH_take (i := 27) (v := ?vh50) rfl (by kernel_rfl) (by kernel_rfl) (by kernel_rfl) (fun _ _ _ h => nomatch h.1) (Or.inl ⟨by kernel_rfl, ?yh50⟩) hHeld4 ?rh50
                            case yh50 => (intro w' hS; (try dsimp only at hS); obtain ⟨s0, s1, s2, s3⟩ := hS; (try go_simp); (try with_reducible rfl))
                            try simp only [Act.put, jA, jB, jC, jD, jE, jF]
                            refine wpAnyH_take (i := 29) (v := ?vh51) rfl (by kernel_rfl) (by kernel_rfl) (by kernel_rfl) (fun _ _ _ h => nomatch h.1) (Or.inl ⟨by kernel_rfl, ?yh51⟩) hHeld4 ?rh51
                            case yh51 => (intro w' hS; (try dsimp only at hS); obtain ⟨s0, s1, s2, s3⟩ := hS; (try go_simp); (try with_reducible rfl))
                            try simp only [Act.put, jA, jB, jC, jD, jE, jF]
                            refine wpAnyH_ready (rs := [28]) (by kernel_rfl) (by simp) ?_
                            refine AllReadyH.cons rfl (fun K hK => ?_) AllReadyH.nil
                            go_simp
                            refine (MB.out _ hb4).mono ?_
                            rintro e x5 ⟨rfl, hc5⟩
                            have hb5 := hb4.trans (hc5.mono hb4.size)
                            clear hc5
                            go_wp2_with fail
                            refine hK.out _ _ (SS.out _ hb5) (fun hHeld5 => ?_)
                            clear hK K
                            try simp only [Act.put, jA, jB, jC, jD, jE, jF]
                            refine wpAnyH_ready (rs := [30]) (by kernel_rfl) (by simp) ?_
                            refine AllReadyH.cons rfl (fun K hK => ?_) AllReadyH.nil
                            go_simp
                            refine (MA.out _ hb5).mono ?_
                            rintro e x6 ⟨rfl, hc6⟩
                            have hb6 := hb5.trans (hc6.mono hb5.size)
                            clear hc6
                            go_wp2_with fail
                            refine hK.out _ _ (SS.out _ hb6) (fun hHeld6 => ?_)
                            clear hK K
                            try simp only [Act.put, jA, jB, jC, jD, jE, jF]
                            by_cases n6 : ma < mb
                            · have dn6 : decide (ma < mb) = true := decide_eq_true n6
                              refine wpAnyH_take (i := 31) (v := ?vh52) rfl (by kernel_rfl) (by kernel_rfl) (by kernel_rfl) (fun _ _ _ h => nomatch h.1) (Or.inl ⟨by kernel_rfl, ?yh52⟩) hHeld6 ?rh52
                              case yh52 => (intro w' hS; (try dsimp only at hS); obtain ⟨s0, s1, s2, s3⟩ := hS; (try go_simp); (try with_reducible rfl))
                              try simp only [Act.put, jA, jB, jC, jD, jE, jF]
                              refine wpAnyH_take (i := 32) (v := ?vh53) rfl (by kernel_rfl) (by kernel_rfl) (by kernel_rfl) (fun _ _ _ h => nomatch h.1) (Or.inl ⟨by kernel_rfl, ?yh53⟩) hHeld6 ?rh53
                              case yh53 => (intro w' hS; (try dsimp only at hS); obtain ⟨s0, s1, s2, s3⟩ := hS; (try go_simp); (try with_reducible rfl))
                              try simp only [Act.put, jA, jB, jC, jD, jE, jF]
                              refine wpAnyH_take (i := 33) (v := ?vh54) rfl (by kernel_rfl) (by kernel_rfl) (by kernel_rfl) (fun _ _ _ h => nomatch h.1) (Or.inl ⟨by kernel_rfl, ?yh54⟩) hHeld6 ?rh54
                              case yh54 => (intro w' hS; (try dsimp only at hS); obtain ⟨s0, s1, s2, s3⟩ := hS; (try go_simp); (try with_reducible rfl))
                              try simp only [Act.put, jA, jB, jC, jD, jE, jF]
                              refine wpAnyH_take (i := 34) (v := ?vh55) rfl (by kernel_rfl) (by kernel_rfl) (by kernel_rfl) (fun _ _ _ h => nomatch h.1) (Or.inl ⟨by kernel_rfl, ?yh55⟩) hHeld6 ?rh55
                              case yh55 => (intro w' hS; (try dsimp only at hS); obtain ⟨s0, s1, s2, s3⟩ := hS; (try go_simp); (try with_reducible rfl))
                              try simp only [Act.put, jA, jB, jC, jD, jE, jF]
                              refine wpAnyH_done (by kernel_rfl) ?_ _
                              have hv : bad2 k j a b = true := by rw [B2.out, en0, dn1, dn2, dn3, dn5, dn6]; rfl
                              refine ⟨rfl, hb6, ?_⟩
                              rw [hv]
                              exact cut_ex (by kernel_rfl)
                            · have dn6 : decide (ma < mb) = false := decide_eq_false n6
                              refine wpAnyH_take (i := 31) (v := ?vh56) rfl (by kernel_rfl) (by kernel_rfl) (by kernel_rfl) (fun _ _ _ h => nomatch h.1) (Or.inl ⟨by kernel_rfl, ?yh56⟩) hHeld6 ?rh56
                              case yh56 => (intro w' hS; (try dsimp only at hS); obtain ⟨s0, s1, s2, s3⟩ := hS; (try go_simp); (try with_reducible rfl))
                              try simp only [Act.put, jA, jB, jC, jD, jE, jF]
                              refine wpAnyH_take (i := 32) (v := ?vh57) rfl (by kernel_rfl) (by kernel_rfl) (by kernel_rfl) (fun _ _ _ h => nomatch h.1) (Or.inl ⟨by kernel_rfl, ?yh57⟩) hHeld6 ?rh57
                              case yh57 => (intro w' hS; (try dsimp only at hS); obtain ⟨s0, s1, s2, s3⟩ := hS; (try go_simp); (try with_reducible rfl))
                              try simp only [Act.put, jA, jB, jC, jD, jE, jF]
                              refine wpAnyH_take (i := 33) (v := ?vh58) rfl (by kernel_rfl) (by kernel_rfl) (by kernel_rfl) (fun _ _ _ h => nomatch h.1) (Or.inl ⟨by kernel_rfl, ?yh58⟩) hHeld6 ?rh58
                              case yh58 => (intro w' hS; (try dsimp only at hS); obtain ⟨s0, s1, s2, s3⟩ := hS; (try go_simp); (try with_reducible rfl))
                              try simp only [Act.put, jA, jB, jC, jD, jE, jF]
                              refine wpAnyH_take (i := 34) (v := ?vh59) rfl (by kernel_rfl) (by kernel_rfl) (by kernel_rfl) (fun _ _ _ h => nomatch h.1) (Or.inl ⟨by kernel_rfl, ?yh59⟩) hHeld6 ?rh59
                              case yh59 => (intro w' hS; (try dsimp only at hS); obtain ⟨s0, s1, s2, s3⟩ := hS; (try go_simp); (try with_reducible rfl))
                              try simp only [Act.put, jA, jB, jC, jD, jE, jF]
                              refine wpAnyH_done (by kernel_rfl) ?_ _
                              have hv : bad2 k j a b = false := by rw [B2.out, en0, dn1, dn2, dn3, dn5, dn6]; rfl
                              refine ⟨rfl, hb6, ?_⟩
                              rw [hv]
                              exact cut_ex (by kernel_rfl)
                          · have dn5 : decide (0 < ma) = false := decide_eq_false n5
                            refine wpAnyH_take (i := 25) (v := ?vh60) rfl (by kernel_rfl) (by kernel_rfl) (by kernel_rfl) (fun _ _ _ h => nomatch h.1) (Or.inl ⟨by kernel_rfl, ?yh60⟩) hHeld4 ?rh60
                            case yh60 => (intro w' hS; (try dsimp only at hS); obtain ⟨s0, s1, s2, s3⟩ := hS; (try go_simp); (try with_reducible rfl))
                            try simp only [Act.put, jA, jB, jC, jD, jE, jF]
                            refine wpAnyH_take (i := 26) (v := ?vh61) rfl (by kernel_rfl) (by kernel_rfl) (by kernel_rfl) (fun _ _ _ h => nomatch h.1) (Or.inl ⟨by kernel_rfl, ?yh61⟩) hHeld4 ?rh61
                            case yh61 => (intro w' hS; (try dsimp only at hS); obtain ⟨s0, s1, s2, s3⟩ := hS; (try go_simp); (try with_reducible rfl))
                            try simp only [Act.put, jA, jB, jC, jD, jE, jF]
                            refine wpAnyH_take (i := 27) (v := undef) rfl (by kernel_rfl) (by kernel_rfl) (by kernel_rfl) (fun _ _ _ h => nomatch h.1) (Or.inr ⟨by kernel_rfl, rfl⟩) hHeld4 ?_
                            try simp only [Act.put, jA, jB, jC, jD, jE, jF]
                            refine wpAnyH_take (i := 28) (v := undef) rfl (by kernel_rfl) (by kernel_rfl) (by kernel_rfl) (fun _ _ _ h => nomatch h.1) (Or.inr ⟨by kernel_rfl, rfl⟩) hHeld4 ?_
                            try simp only [Act.put, jA, jB, jC, jD, jE, jF]
                            refine wpAnyH_take (i := 29) (v := undef) rfl (by kernel_rfl) (by kernel_rfl) (by kernel_rfl) (fun _ _ _ h => nomatch h.1) (Or.inr ⟨by kernel_rfl, rfl⟩) hHeld4 ?_
                            try simp only [Act.put, jA, jB, jC, jD, jE, jF]
                            refine wpAnyH_take (i := 30) (v := undef) rfl (by kernel_rfl) (by kernel_rfl) (by kernel_rfl) (fun _ _ _ h => nomatch h.1) (Or.inr ⟨by kernel_rfl, rfl⟩) hHeld4 ?_
                            try simp only [Act.put, jA, jB, jC, jD, jE, jF]
                            refine wpAnyH_take (i := 31) (v := undef) rfl (by kernel_rfl) (by kernel_rfl) (by kernel_rfl) (fun _ _ _ h => nomatch h.1) (Or.inr ⟨by kernel_rfl, rfl⟩) hHeld4 ?_
                            try simp only [Act.put, jA, jB, jC, jD, jE, jF]
                            refine wpAnyH_take (i := 32) (v := ?vh62) rfl (by kernel_rfl) (by kernel_rfl) (by kernel_rfl) (fun _ _ _ h => nomatch h.1) (Or.inl ⟨by kernel_rfl, ?yh62⟩) hHeld4 ?rh62
                            case yh62 => (intro w' hS; (try dsimp only at hS); obtain ⟨s0, s1, s2, s3⟩ := hS; (try go_simp); (try with_reducible rfl))
                            try simp only [Act.put, jA, jB, jC, jD, jE, jF]
                            refine wpAnyH_take (i := 33) (v := ?vh63) rfl (by kernel_rfl) (by kernel_rfl) (by kernel_rfl) (fun _ _ _ h => nomatch h.1) (Or.inl ⟨by kernel_rfl, ?yh63⟩) hHeld4 ?rh63
                            case yh63 => (intro w' hS; (try dsimp only at hS); obtain ⟨s0, s1, s2, s3⟩ := hS; (try go_simp); (try with_reducible rfl))
                            try simp only [Act.put, jA, jB, jC, jD, jE, jF]
                            refine wpAnyH_take (i := 34) (v := ?vh64) rfl (by kernel_rfl) (by kernel_rfl) (by kernel_rfl) (fun _ _ _ h => nomatch h.1) (Or.inl ⟨by kernel_rfl, ?yh64⟩) hHeld4 ?rh64
                            case yh64 => (intro w' hS; (try dsimp only at hS); obtain ⟨s0, s1, s2, s3⟩ := hS; (try go_simp); (try with_reducible rfl))
                            try simp only [Act.put, jA, jB, jC, jD, jE, jF]
                            refine wpAnyH_done (by kernel_rfl) ?_ _
                            have hv : bad2 k j a b = false := by rw [B2.out, en0, dn1, dn2, dn3, dn5]; rfl
                            refine ⟨rfl, hb4, ?_⟩
                            rw [hv]
                            exact cut_ex (by kernel_rfl)
                      · have dn2 : decide (ca < 4) = false := decide_eq_false n2
                        refine wpAnyH_take (i := 11) (v := ?vh65) rfl (by kernel_rfl) (by kernel_rfl) (by kernel_rfl) (fun _ _ _ h => nomatch h.1) (Or.inl ⟨by kernel_rfl, ?yh65⟩) hHeld2 ?rh65
                        case yh65 => (intro w' hS; (try dsimp only at hS); obtain ⟨s0, s1, s2, s3⟩ := hS; (try go_simp); (try with_reducible rfl))
                        try simp only [Act.put, jA, jB, jC, jD, jE, jF]
                        refine wpAnyH_take (i := 12) (v := ?vh66) rfl (by kernel_rfl) (by kernel_rfl) (by kernel_rfl) (fun _ _ _ h => nomatch h.1) (Or.inl ⟨by kernel_rfl, ?yh66⟩) hHeld2 ?rh66
                        case yh66 => (intro w' hS; (try dsimp only at hS); obtain ⟨s0, s1, s2, s3⟩ := hS; (try go_simp); (try with_reducible rfl))
                        try simp only [Act.put, jA, jB, jC, jD, jE, jF]
                        refine wpAnyH_take (i := 13) (v := ?vh67) rfl (by kernel_rfl) (by kernel_rfl) (by kernel_rfl) (fun _ _ _ h => nomatch h.1) (Or.inl ⟨by kernel_rfl, ?yh67⟩) hHeld2 ?rh67
                        case yh67 => (intro w' hS; (try dsimp only at hS); obtain ⟨s0, s1, s2, s3⟩ := hS; (try go_simp); (try with_reducible rfl))
                        try simp only [Act.put, jA, jB, jC, jD, jE, jF]
                        refine wpAnyH_take (i := 14) (v := undef) rfl (by kernel_rfl) (by kernel_rfl) (by kernel_rfl) (fun _ _ _ h => nomatch h.1) (Or.inr ⟨by kernel_rfl, rfl⟩) hHeld2 ?_
                        try simp only [Act.put, jA, jB, jC, jD, jE, jF]
                        refine wpAnyH_take (i := 15) (v := undef) rfl (by kernel_rfl) (by kernel_rfl) (by kernel_rfl) (fun _ _ _ h => nomatch h.1) (Or.inr ⟨by kernel_rfl, rfl⟩) hHeld2 ?_
                        try simp only [Act.put, jA, jB, jC, jD, jE, jF]
                        refine wpAnyH_take (i := 16) (v := undef) rfl (by kernel_rfl) (by kernel_rfl) (by kernel_rfl) (fun _ _ _ h => nomatch h.1) (Or.inr ⟨by kernel_rfl, rfl⟩) hHeld2 ?_
                        try simp only [Act.put, jA, jB, jC, jD, jE, jF]
                        refine wpAnyH_take (i := 17) (v := undef) rfl (by kernel_rfl) (by kernel_rfl) (by kernel_rfl) (fun _ _ _ h => nomatch h.1) (Or.inr ⟨by kernel_rfl, rfl⟩) hHeld2 ?_
                        try simp only [Act.put, jA, jB, jC, jD, jE, jF]
                        refine wpAnyH_take (i := 18) (v := undef) rfl (by kernel_rfl) (by kernel_rfl) (by kernel_rfl) (fun _ _ _ h => nomatch h.1) (Or.inr ⟨by kernel_rfl, rfl⟩) hHeld2 ?_
                        try simp only [Act.put, jA, jB, jC, jD, jE, jF]
                        refine wpAnyH_take (i := 19) (v := undef) rfl (by kernel_rfl) (by kernel_rfl) (by kernel_rfl) (fun _ _ _ h => nomatch h.1) (Or.inr ⟨by kernel_rfl, rfl⟩) hHeld2 ?_
                        try simp only [Act.put, jA, jB, jC, jD, jE, jF]
                        refine wpAnyH_take (i := 20) (v := undef) rfl (by kernel_rfl) (by kernel_rfl) (by kernel_rfl) (fun _ _ _ h => nomatch h.1) (Or.inr ⟨by kernel_rfl, rfl⟩) hHeld2 ?_
                        try simp only [Act.put, jA, jB, jC, jD, jE, jF]
                        refine wpAnyH_take (i := 21) (v := undef) rfl (by kernel_rfl) (by kernel_rfl) (by kernel_rfl) (fun _ _ _ h => nomatch h.1) (Or.inr ⟨by kernel_rfl, rfl⟩) hHeld2 ?_
                        try simp only [Act.put, jA, jB, jC, jD, jE, jF]
                        refine wpAnyH_take (i := 22) (v := undef) rfl (by kernel_rfl) (by kernel_rfl) (by kernel_rfl) (fun _ _ _ h => nomatch h.1) (Or.inr ⟨by kernel_rfl, rfl⟩) hHeld2 ?_
                        try simp only [Act.put, jA, jB, jC, jD, jE, jF]
                        refine wpAnyH_take (i := 23) (v := undef) rfl (by kernel_rfl) (by kernel_rfl) (by kernel_rfl) (fun _ _ _ h => nomatch h.1) (Or.inr ⟨by kernel_rfl, rfl⟩) hHeld2 ?_
                        try simp only [Act.put, jA, jB, jC, jD, jE, jF]
                        refine wpAnyH_take (i := 24) (v := undef) rfl (by kernel_rfl) (by kernel_rfl) (by kernel_rfl) (fun _ _ _ h => nomatch h.1) (Or.inr ⟨by kernel_rfl, rfl⟩) hHeld2 ?_
                        try simp only [Act.put, jA, jB, jC, jD, jE, jF]
                        refine wpAnyH_take (i := 25) (v := undef) rfl (by kernel_rfl) (by kernel_rfl) (by kernel_rfl) (fun _ _ _ h => nomatch h.1) (Or.inr ⟨by kernel_rfl, rfl⟩) hHeld2 ?_
                        try simp only [Act.put, jA, jB, jC, jD, jE, jF]
                        refine wpAnyH_take (i := 26) (v := undef) rfl (by kernel_rfl) (by kernel_rfl) (by kernel_rfl) (fun _ _ _ h => nomatch h.1) (Or.inr ⟨by kernel_rfl, rfl⟩) hHeld2 ?_
                        try simp only [Act.put, jA, jB, jC, jD, jE, jF]
                        refine wpAnyH_take (i := 27) (v := undef) rfl (by kernel_rfl) (by kernel_rfl) (by kernel_rfl) (fun _ _ _ h => nomatch h.1) (Or.inr ⟨by kernel_rfl, rfl⟩) hHeld2 ?_
                        try simp only [Act.put, jA, jB, jC, jD, jE, jF]
                        refine wpAnyH_take (i := 28) (v := undef) rfl (by kernel_rfl) (by kernel_rfl) (by kernel_rfl) (fun _ _ _ h => nomatch h.1) (Or.inr ⟨by kernel_rfl, rfl⟩) hHeld2 ?_
                        try simp only [Act.put, jA, jB, jC, jD, jE, jF]
                        refine wpAnyH_take (i := 29) (v := undef) rfl (by kernel_rfl) (by kernel_rfl) (by kernel_rfl) (fun _ _ _ h => nomatch h.1) (Or.inr ⟨by kernel_rfl, rfl⟩) hHeld2 ?_
                        try simp only [Act.put, jA, jB, jC, jD, jE, jF]
                        refine wpAnyH_take (i := 30) (v := undef) rfl (by kernel_rfl) (by kernel_rfl) (by kernel_rfl) (fun _ _ _ h => nomatch h.1) (Or.inr ⟨by kernel_rfl, rfl⟩) hHeld2 ?_
                        try simp only [Act.put, jA, jB, jC, jD, jE, jF]
                        refine wpAnyH_take (i := 31) (v := undef) rfl (by kernel_rfl) (by kernel_rfl) (by kernel_rfl) (fun _ _ _ h => nomatch h.1) (Or.inr ⟨by kernel_rfl, rfl⟩) hHeld2 ?_
                        try simp only [Act.put, jA, jB, jC, jD, jE, jF]
                        refine wpAnyH_take (i := 32) (v := undef) rfl (by kernel_rfl) (by kernel_rfl) (by kernel_rfl) (fun _ _ _ h => nomatch h.1) (Or.inr ⟨by kernel_rfl, rfl⟩) hHeld2 ?_
                        try simp only [Act.put, jA, jB, jC, jD, jE, jF]
                        refine wpAnyH_take (i := 33) (v := undef) rfl (by kernel_rfl) (by kernel_rfl) (by kernel_rfl) (fun _ _ _ h => nomatch h.1) (Or.inr ⟨by kernel_rfl, rfl⟩) hHeld2 ?_
                        try simp only [Act.put, jA, jB, jC, jD, jE, jF]
                        refine wpAnyH_take (i := 34) (v := ?vh68) rfl (by kernel_rfl) (by kernel_rfl) (by kernel_rfl) (fun _ _ _ h => nomatch h.1) (Or.inl ⟨by kernel_rfl, ?yh68⟩) hHeld2 ?rh68
                        case yh68 => (intro w' hS; (try dsimp only at hS); obtain ⟨s0, s1, s2, s3⟩ := hS; (try go_simp); (try with_reducible rfl))
                        try simp only [Act.put, jA, jB, jC, jD, jE, jF]
                        refine wpAnyH_done (by kernel_rfl) ?_ _
                        have hv : bad2 k j a b = false := by rw [B2.out, en0, dn1, dn2]; rfl
                        refine ⟨rfl, hb2, ?_⟩
                        rw [hv]
                        exact cut_ex (by kernel_rfl)
                    · have dn1 : decide (0 < ca) = false := decide_eq_false n1
                      refine wpAnyH_take (i := 6) (v := ?vh69) rfl (by kernel_rfl) (by kernel_rfl) (by kernel_rfl) (fun _ _ _ h => nomatch h.1) (Or.inl ⟨by kernel_rfl, ?yh69⟩) hHeld1 ?rh69
                      case yh69 => (intro w' hS; (try dsimp only at hS); obtain ⟨s0, s1, s2, s3⟩ := hS; (try go_simp); (try with_reducible rfl))
                      try simp only [Act.put, jA, jB, jC, jD, jE, jF]
                      refine wpAnyH_take (i := 7) (v := ?vh70) rfl (by kernel_rfl) (by kernel_rfl) (by kernel_rfl) (fun _ _ _ h => nomatch h.1) (Or.inl ⟨by kernel_rfl, ?yh70⟩) hHeld1 ?rh70
                      case yh70 => (intro w' hS; (try dsimp only at hS); obtain ⟨s0, s1, s2, s3⟩ := hS; (try go_simp); (try with_reducible rfl))
                      try simp only [Act.put, jA, jB, jC, jD, jE, jF]
                      refine wpAnyH_take (i := 8) (v := ?vh71) rfl (by kernel_rfl) (by kernel_rfl) (by kernel_rfl) (fun _ _ _ h => nomatch h.1) (Or.inl ⟨by kernel_rfl, ?yh71⟩) hHeld1 ?rh71
                      case yh71 => (intro w' hS; (try dsimp only at hS); obtain ⟨s0, s1, s2, s3⟩ := hS; (try go_simp); (try with_reducible rfl))
                      try simp only [Act.put, jA, jB, jC, jD, jE, jF]
                      refine wpAnyH_take (i := 9) (v := undef) rfl (by kernel_rfl) (by kernel_rfl) (by kernel_rfl) (fun _ _ _ h => nomatch h.1) (Or.inr ⟨by kernel_rfl, rfl⟩) hHeld1 ?_
                      try simp only [Act.put, jA, jB, jC, jD, jE, jF]
                      refine wpAnyH_take (i := 10) (v := undef) rfl (by kernel_rfl) (by kernel_rfl) (by kernel_rfl) (fun _ _ _ h => nomatch h.1) (Or.inr ⟨by kernel_rfl, rfl⟩) hHeld1 ?_
                      try simp only [Act.put, jA, jB, jC, jD, jE, jF]
                      refine wpAnyH_take (i := 11) (v := undef) rfl (by kernel_rfl) (by kernel_rfl) (by kernel_rfl) (fun _ _ _ h => nomatch h.1) (Or.inr ⟨by kernel_rfl, rfl⟩) hHeld1 ?_
                      try simp only [Act.put, jA, jB, jC, jD, jE, jF]
                      refine wpAnyH_take (i := 12) (v := ?vh72) rfl (by kernel_rfl) (by kernel_rfl) (by kernel_rfl) (fun _ _ _ h => nomatch h.1) (Or.inl ⟨by kernel_rfl, ?yh72⟩) hHeld1 ?rh72
                      case yh72 => (intro w' hS; (try dsimp only at hS); obtain ⟨s0, s1, s2, s3⟩ := hS; (try go_simp); (try with_reducible rfl))
                      try simp only [Act.put, jA, jB, jC, jD, jE, jF]
                      refine wpAnyH_take (i := 13) (v := ?vh73) rfl (by kernel_rfl) (by kernel_rfl) (by kernel_rfl) (fun _ _ _ h => nomatch h.1) (Or.inl ⟨by kernel_rfl, ?yh73⟩) hHeld1 ?rh73
                      case yh73 => (intro w' hS; (try dsimp only at hS); obtain ⟨s0, s1, s2, s3⟩ := hS; (try go_simp); (try with_reducible rfl))
                      try simp only [Act.put, jA, jB, jC, jD, jE, jF]
                      refine wpAnyH_take (i := 14) (v := undef) rfl (by kernel_rfl) (by kernel_rfl) (by kernel_rfl) (fun _ _ _ h => nomatch h.1) (Or.inr ⟨by kernel_rfl, rfl⟩) hHeld1 ?_
                      try simp only [Act.put, jA, jB, jC, jD, jE, jF]
                      refine wpAnyH_take (i := 15) (v := undef) rfl (by kernel_rfl) (by kernel_rfl) (by kernel_rfl) (fun _ _ _ h => nomatch h.1) (Or.inr ⟨by kernel_rfl, rfl⟩) hHeld1 ?_
                      try simp only [Act.put, jA, jB, jC, jD, jE, jF]
                      refine wpAnyH_take (i := 16) (v := undef) rfl (by kernel_rfl) (by kernel_rfl) (by kernel_rfl) (fun _ _ _ h => nomatch h.1) (Or.inr ⟨by kernel_rfl, rfl⟩) hHeld1 ?_
                      try simp only [Act.put, jA, jB, jC, jD, jE, jF]
                      refine wpAnyH_take (i := 17) (v := undef) rfl (by kernel_rfl) (by kernel_rfl) (by kernel_rfl) (fun _ _ _ h => nomatch h.1) (Or.inr ⟨by kernel_rfl, rfl⟩) hHeld1 ?_
                      try simp only [Act.put, jA, jB, jC, jD, jE, jF]
                      refine wpAnyH_take (i := 18) (v := undef) rfl (by kernel_rfl) (by kernel_rfl) (by kernel_rfl) (fun _ _ _ h => nomatch h.1) (Or.inr ⟨by kernel_rfl, rfl⟩) hHeld1 ?_
                      try simp only [Act.put, jA, jB, jC, jD, jE, jF]
                      refine wpAnyH_take (i := 19) (v := undef) rfl (by kernel_rfl) (by kernel_rfl) (by kernel_rfl) (fun _ _ _ h => nomatch h.1) (Or.inr ⟨by kernel_rfl, rfl⟩) hHeld1 ?_
                      try simp only [Act.put, jA, jB, jC, jD, jE, jF]
                      refine wpAnyH_take (i := 20) (v := undef) rfl (by kernel_rfl) (by kernel_rfl) (by kernel_rfl) (fun _ _ _ h => nomatch h.1) (Or.inr ⟨by kernel_rfl, rfl⟩) hHeld1 ?_
                      try simp only [Act.put, jA, jB, jC, jD, jE, jF]
                      refine wpAnyH_take (i := 21) (v := undef) rfl (by kernel_rfl) (by kernel_rfl) (by kernel_rfl) (fun _ _ _ h => nomatch h.1) (Or.inr ⟨by kernel_rfl, rfl⟩) hHeld1 ?_
                      try simp only [Act.put, jA, jB, jC, jD, jE, jF]
                      refine wpAnyH_take (i := 22) (v := undef) rfl (by kernel_rfl) (by kernel_rfl) (by kernel_rfl) (fun _ _ _ h => nomatch h.1) (Or.inr ⟨by kernel_rfl, rfl⟩) hHeld1 ?_
                      try simp only [Act.put, jA, jB, jC, jD, jE, jF]
                      refine wpAnyH_take (i := 23) (v := undef) rfl (by kernel_rfl) (by kernel_rfl) (by kernel_rfl) (fun _ _ _ h => nomatch h.1) (Or.inr ⟨by kernel_rfl, rfl⟩) hHeld1 ?_
                      try simp only [Act.put, jA, jB, jC, jD, jE, jF]
                      refine wpAnyH_take (i := 24) (v := undef) rfl (by kernel_rfl) (by kernel_rfl) (by kernel_rfl) (fun _ _ _ h => nomatch h.1) (Or.inr ⟨by kernel_rfl, rfl⟩) hHeld1 ?_
                      try simp only [Act.put, jA, jB, jC, jD, jE, jF]
                      refine wpAnyH_take (i := 25) (v := undef) rfl (by kernel_rfl) (by kernel_rfl) (by kernel_rfl) (fun _ _ _ h => nomatch h.1) (Or.inr ⟨by kernel_rfl, rfl⟩) hHeld1 ?_
                      try simp only [Act.put, jA, jB, jC, jD, jE, jF]
                      refine wpAnyH_take (i := 26) (v := undef) rfl (by kernel_rfl) (by kernel_rfl) (by kernel_rfl) (fun _ _ _ h => nomatch h.1) (Or.inr ⟨by kernel_rfl, rfl⟩) hHeld1 ?_
                      try simp only [Act.put, jA, jB, jC, jD, jE, jF]
                      refine wpAnyH_take (i := 27) (v := undef) rfl (by kernel_rfl) (by kernel_rfl) (by kernel_rfl) (fun _ _ _ h => nomatch h.1) (Or.inr ⟨by kernel_rfl, rfl⟩) hHeld1 ?_
                      try simp only [Act.put, jA, jB, jC, jD, jE, jF]
                      refine wpAnyH_take (i := 28) (v := undef) rfl (by kernel_rfl) (by kernel_rfl) (by kernel_rfl) (fun _ _ _ h => nomatch h.1) (Or.inr ⟨by kernel_rfl, rfl⟩) hHeld1 ?_
                      try simp only [Act.put, jA, jB, jC, jD, jE, jF]
                      refine wpAnyH_take (i := 29) (v := undef) rfl (by kernel_rfl) (by kernel_rfl) (by kernel_rfl) (fun _ _ _ h => nomatch h.1) (Or.inr ⟨by kernel_rfl, rfl⟩) hHeld1 ?_
                      try simp only [Act.put, jA, jB, jC, jD, jE, jF]
                      refine wpAnyH_take (i := 30) (v := undef) rfl (by kernel_rfl) (by kernel_rfl) (by kernel_rfl) (fun _ _ _ h => nomatch h.1) (Or.inr ⟨by kernel_rfl, rfl⟩) hHeld1 ?_
                      try simp only [Act.put, jA, jB, jC, jD, jE, jF]
                      refine wpAnyH_take (i := 31) (v := undef) rfl (by kernel_rfl) (by kernel_rfl) (by kernel_rfl) (fun _ _ _ h => nomatch h.1) (Or.inr ⟨by kernel_rfl, rfl⟩) hHeld1 ?_
                      try simp only [Act.put, jA, jB, jC, jD, jE, jF]
                      refine wpAnyH_take (i := 32) (v := undef) rfl (by kernel_rfl) (by kernel_rfl) (by kernel_rfl) (fun _ _ _ h => nomatch h.1) (Or.inr ⟨by kernel_rfl, rfl⟩) hHeld1 ?_
                      try simp only [Act.put, jA, jB, jC, jD, jE, jF]
                      refine wpAnyH_take (i := 33) (v := undef) rfl (by kernel_rfl) (by kernel_rfl) (by kernel_rfl) (fun _ _ _ h => nomatch h.1) (Or.inr ⟨by kernel_rfl, rfl⟩) hHeld1 ?_
                      try simp only [Act.put, jA, jB, jC, jD, jE, jF]
                      refine wpAnyH_take (i := 34) (v := ?vh74) rfl (by kernel_rfl) (by kernel_rfl) (by kernel_rfl) (fun _ _ _ h => nomatch h.1) (Or.inl ⟨by kernel_rfl, ?yh74⟩) hHeld1 ?rh74
                      case yh74 => (intro w' hS; (try dsimp only at hS); obtain ⟨s0, s1, s2, s3⟩ := hS; (try go_simp); (try with_reducible rfl))
                      try simp only [Act.put, jA, jB, jC, jD, jE, jF]
                      refine wpAnyH_done (by kernel_rfl) ?_ _
                      have hv : bad2 k j a b = false := by rw [B2.out, en0, dn1]; rfl
                      refine ⟨rfl, hb1, ?_⟩
                      rw [hv]
                      exact cut_ex (by kernel_rfl)
                  · have dn0 : ((k : Int) != (j : Int)) = false := by rw [bne_eq_false_iff_eq]; omega
                    have en0 : decide (k ≠ j) = false := decide_eq_false n0
                    refine wpAnyH_take (i := 2) (v := ?vh75) rfl (by kernel_rfl) (by kernel_rfl) (by kernel_rfl) (fun _ _ _ h => nomatch h.1) (Or.inl ⟨by kernel_rfl, ?yh75⟩) hHeld0 ?rh75
                    case yh75 => (intro w' hS; (try dsimp only at hS); obtain ⟨s0, s1, s2, s3⟩ := hS; (try go_simp); (try with_reducible rfl))
                    try simp only [Act.put, jA, jB, jC, jD, jE, jF]
                    refine wpAnyH_take (i := 3) (v := ?vh76) rfl (by kernel_rfl) (by kernel_rfl) (by kernel_rfl) (fun _ _ _ h => nomatch h.1) (Or.inl ⟨by kernel_rfl, ?yh76⟩) hHeld0 ?rh76
                    case yh76 => (intro w' hS; (try dsimp only at hS); obtain ⟨s0, s1, s2, s3⟩ := hS; (try go_simp); (try with_reducible rfl))
                    try simp only [Act.put, jA, jB, jC, jD, jE, jF]
                    refine wpAnyH_take (i := 4) (v := undef) rfl (by kernel_rfl) (by kernel_rfl) (by kernel_rfl) (fun _ _ _ h => nomatch h.1) (Or.inr ⟨by kernel_rfl, rfl⟩) hHeld0 ?_
                    try simp only [Act.put, jA, jB, jC, jD, jE, jF]
                    refine wpAnyH_take (i := 5) (v := undef) rfl (by kernel_rfl) (by kernel_rfl) (by kernel_rfl) (fun _ _ _ h => nomatch h.1) (Or.inr ⟨by kernel_rfl, rfl⟩) hHeld0 ?_
                    try simp only [Act.put, jA, jB, jC, jD, jE, jF]
                    refine wpAnyH_take (i := 6) (v := undef) rfl (by kernel_rfl) (by kernel_rfl) (by kernel_rfl) (fun _ _ _ h => nomatch h.1) (Or.inr ⟨by kernel_rfl, rfl⟩) hHeld0 ?_
                    try simp only [Act.put, jA, jB, jC, jD, jE, jF]
                    refine wpAnyH_take (i := 7) (v := ?vh77) rfl (by kernel_rfl) (by kernel_rfl) (by kernel_rfl) (fun _ _ _ h => nomatch h.1) (Or.inl ⟨by kernel_rfl, ?yh77⟩) hHeld0 ?rh77
                    case yh77 => (intro w' hS; (try dsimp only at hS); obtain ⟨s0, s1, s2, s3⟩ := hS; (try go_simp); (try with_reducible rfl))
                    try simp only [Act.put, jA, jB, jC, jD, jE, jF]
                    refine wpAnyH_take (i := 8) (v := ?vh78) rfl (by kernel_rfl) (by kernel_rfl) (by kernel_rfl) (fun _ _ _ h => nomatch h.1) (Or.inl ⟨by kernel_rfl, ?yh78⟩) hHeld0 ?rh78
                    case yh78 => (intro w' hS; (try dsimp only at hS); obtain ⟨s0, s1, s2, s3⟩ := hS; (try go_simp); (try with_reducible rfl))
                    try simp only [Act.put, jA, jB, jC, jD, jE, jF]
                    refine wpAnyH_take (i := 9) (v := undef) rfl (by kernel_rfl) (by kernel_rfl) (by kernel_rfl) (fun _ _ _ h => nomatch h.1) (Or.inr ⟨by kernel_rfl, rfl⟩) hHeld0 ?_
                    try simp only [Act.put, jA, jB, jC, jD, jE, jF]
                    refine wpAnyH_take (i := 10) (v := undef) rfl (by kernel_rfl) (by kernel_rfl) (by kernel_rfl) (fun _ _ _ h => nomatch h.1) (Or.inr ⟨by kernel_rfl, rfl⟩) hHeld0 ?_
                    try simp only [Act.put, jA, jB, jC, jD, jE, jF]
                    refine wpAnyH_take (i := 11) (v := undef) rfl (by kernel_rfl) (by kernel_rfl) (by kernel_rfl) (fun _ _ _ h => nomatch h.1) (Or.inr ⟨by kernel_rfl, rfl⟩) hHeld0 ?_
                    try simp only [Act.put, jA, jB, jC, jD, jE, jF]
                    refine wpAnyH_take (i := 12) (v := ?vh79) rfl (by kernel_rfl) (by kernel_rfl) (by kernel_rfl) (fun _ _ _ h => nomatch h.1) (Or.inl ⟨by kernel_rfl, ?yh79⟩) hHeld0 ?rh79
                    case yh79 => (intro w' hS; (try dsimp only at hS); obtain ⟨s0, s1, s2, s3⟩ := hS; (try go_simp); (try with_reducible rfl))
                    try simp only [Act.put, jA, jB, jC, jD, jE, jF]
                    refine wpAnyH_take (i := 13) (v := ?vh80) rfl (by kernel_rfl) (by kernel_rfl) (by kernel_rfl) (fun _ _ _ h => nomatch h.1) (Or.inl ⟨by kernel_rfl, ?yh80⟩) hHeld0 ?rh80
                    case yh80 => (intro w' hS; (try dsimp only at hS); obtain ⟨s0, s1, s2, s3⟩ := hS; (try go_simp); (try with_reducible rfl))
                    try simp only [Act.put, jA, jB, jC, jD, jE, jF]
                    refine wpAnyH_take (i := 14) (v := undef) rfl (by kernel_rfl) (by kernel_rfl) (by kernel_rfl) (fun _ _ _ h => nomatch h.1) (Or.inr ⟨by kernel_rfl, rfl⟩) hHeld0 ?_
                    try simp only [Act.put, jA, jB, jC, jD, jE, jF]
                    refine wpAnyH_take (i := 15) (v := undef) rfl (by kernel_rfl) (by kernel_rfl) (by kernel_rfl) (fun _ _ _ h => nomatch h.1) (Or.inr ⟨by kernel_rfl, rfl⟩) hHeld0 ?_
                    try simp only [Act.put, jA, jB, jC, jD, jE, jF]
                    refine wpAnyH_take (i := 16) (v := undef) rfl (by kernel_rfl) (by kernel_rfl) (by kernel_rfl) (fun _ _ _ h => nomatch h.1) (Or.inr ⟨by kernel_rfl, rfl⟩) hHeld0 ?_
                    try simp only [Act.put, jA, jB, jC, jD, jE, jF]
                    refine wpAnyH_take (i := 17) (v := undef) rfl (by kernel_rfl) (by kernel_rfl) (by kernel_rfl) (fun _ _ _ h => nomatch h.1) (Or.inr ⟨by kernel_rfl, rfl⟩) hHeld0 ?_
                    try simp only [Act.put, jA, jB, jC, jD, jE, jF]
                    refine wpAnyH_take (i := 18) (v := undef) rfl (by kernel_rfl) (by kernel_rfl) (by kernel_rfl) (fun _ _ _ h => nomatch h.1) (Or.inr ⟨by kernel_rfl, rfl⟩) hHeld0 ?_
                    try simp only [Act.put, jA, jB, jC, jD, jE, jF]
                    refine wpAnyH_take (i := 19) (v := undef) rfl (by kernel_rfl) (by kernel_rfl) (by kernel_rfl) (fun _ _ _ h => nomatch h.1) (Or.inr ⟨by kernel_rfl, rfl⟩) hHeld0 ?_
                    try simp only [Act.put, jA, jB, jC, jD, jE, jF]
                    refine wpAnyH_take (i := 20) (v := undef) rfl (by kernel_rfl) (by kernel_rfl) (by kernel_rfl) (fun _ _ _ h => nomatch h.1) (Or.inr ⟨by kernel_rfl, rfl⟩) hHeld0 ?_
                    try simp only [Act.put, jA, jB, jC, jD, jE, jF]
                    refine wpAnyH_take (i := 21) (v := undef) rfl (by kernel_rfl) (by kernel_rfl) (by kernel_rfl) (fun _ _ _ h => nomatch h.1) (Or.inr ⟨by kernel_rfl, rfl⟩) hHeld0 ?_
                    try simp only [Act.put, jA, jB, jC, jD, jE, jF]
                    refine wpAnyH_take (i := 22) (v := undef) rfl (by kernel_rfl) (by kernel_rfl) (by kernel_rfl) (fun _ _ _ h => nomatch h.1) (Or.inr ⟨by kernel_rfl, rfl⟩) hHeld0 ?_
                    try simp only [Act.put, jA, jB, jC, jD, jE, jF]
                    refine wpAnyH_take (i := 23) (v := undef) rfl (by kernel_rfl) (by kernel_rfl) (by kernel_rfl) (fun _ _ _ h => nomatch h.1) (Or.inr ⟨by kernel_rfl, rfl⟩) hHeld0 ?_
                    try simp only [Act.put, jA, jB, jC, jD, jE, jF]
                    refine wpAnyH_take (i := 24) (v := undef) rfl (by kernel_rfl) (by kernel_rfl) (by kernel_rfl) (fun _ _ _ h => nomatch h.1) (Or.inr ⟨by kernel_rfl, rfl⟩) hHeld0 ?_
                    try simp only [Act.put, jA, jB, jC, jD, jE, jF]
                    refine wpAnyH_take (i := 25) (v := undef) rfl (by kernel_rfl) (by kernel_rfl) (by kernel_rfl) (fun _ _ _ h => nomatch h.1) (Or.inr ⟨by kernel_rfl, rfl⟩) hHeld0 ?_
                    try simp only [Act.put, jA, jB, jC, jD, jE, jF]
                    refine wpAnyH_take (i := 26) (v := undef) rfl (by kernel_rfl) (by kernel_rfl) (by kernel_rfl) (fun _ _ _ h => nomatch h.1) (Or.inr ⟨by kernel_rfl, rfl⟩) hHeld0 ?_
                    try simp only [Act.put, jA, jB, jC, jD, jE, jF]
                    refine wpAnyH_take (i := 27) (v := undef) rfl (by kernel_rfl) (by kernel_rfl) (by kernel_rfl) (fun _ _ _ h => nomatch h.1) (Or.inr ⟨by kernel_rfl, rfl⟩) hHeld0 ?_
                    try simp only [Act.put, jA, jB, jC, jD, jE, jF]
                    refine wpAnyH_take (i := 28) (v := undef) rfl (by kernel_rfl) (by kernel_rfl) (by kernel_rfl) (fun _ _ _ h => nomatch h.1) (Or.inr ⟨by kernel_rfl, rfl⟩) hHeld0 ?_
                    try simp only [Act.put, jA, jB, jC, jD, jE, jF]
                    refine wpAnyH_take (i := 29) (v := undef) rfl (by kernel_rfl) (by kernel_rfl) (by kernel_rfl) (fun _ _ _ h => nomatch h.1) (Or.inr ⟨by kernel_rfl, rfl⟩) hHeld0 ?_
                    try simp only [Act.put, jA, jB, jC, jD, jE, jF]
                    refine wpAnyH_take (i := 30) (v := undef) rfl (by kernel_rfl) (by kernel_rfl) (by kernel_rfl) (fun _ _ _ h => nomatch h.1) (Or.inr ⟨by kernel_rfl, rfl⟩) hHeld0 ?_
                    try simp only [Act.put, jA, jB, jC, jD, jE, jF]
                    refine wpAnyH_take (i := 31) (v := undef) rfl (by kernel_rfl) (by kernel_rfl) (by kernel_rfl) (fun _ _ _ h => nomatch h.1) (Or.inr ⟨by kernel_rfl, rfl⟩) hHeld0 ?_
                    try simp only [Act.put, jA, jB, jC, jD, jE, jF]
                    refine wpAnyH_take (i := 32) (v := undef) rfl (by kernel_rfl) (by kernel_rfl) (by kernel_rfl) (fun _ _ _ h => nomatch h.1) (Or.inr ⟨by kernel_rfl, rfl⟩) hHeld0 ?_
                    try simp only [Act.put, jA, jB, jC, jD, jE, jF]
                    refine wpAnyH_take (i := 33) (v := undef) rfl (by kernel_rfl) (by kernel_rfl) (by kernel_rfl) (fun _ _ _ h => nomatch h.1) (Or.inr ⟨by kernel_rfl, rfl⟩) hHeld0 ?_
                    try simp only [Act.put, jA, jB, jC, jD, jE, jF]
                    refine wpAnyH_take (i := 34) (v := ?vh81) rfl (by kernel_rfl) (by kernel_rfl) (by kernel_rfl) (fun _ _ _ h => nomatch h.1) (Or.inl ⟨by kernel_rfl, ?yh81⟩) hHeld0 ?rh81
                    case yh81 => (intro w' hS; (try dsimp only at hS); obtain ⟨s0, s1, s2, s3⟩ := hS; (try go_simp); (try with_reducible rfl))
                    try simp only [Act.put, jA, jB, jC, jD, jE, jF]
                    refine wpAnyH_done (by kernel_rfl) ?_ _
                    have hv : bad2 k j a b = false := by rw [B2.out, en0]; rfl
                    refine ⟨rfl, hbz, ?_⟩
                    rw [hv]
                    exact cut_ex (by kernel_rfl)
                case rest13 =>
                  intro x W4 hc4
                  by_cases hv2 : bad2 k j a b = true
                  · have hx : Hid (allOrd f 0 f = false) := by rw [Hid, hT2.out, show rowOrd k a 0 f = false from by rw [hU2.out, if_pos (Or.inr hv2)]]; rfl
                    rw [hv2]
                    go_wp2
                    go_ret
                    exact ⟨ret_bool (by rw [hfin.out, hx.out]), hb1.trans ((hcl _ hc4).mono hb1.size)⟩
                  · have hx : Hid (rowOrd k a 0 f = rowOrd k a (j + 1) (f.drop (j + 1))) := by rw [Hid, hU2.out, if_neg (by rintro (h | h); exact hv1 h; exact hv2 h)]
                    rw [show bad2 k j a b = false from by simpa using hv2]
                    go_wp2
                    go_roundw
                    (case rel => exact ⟨j + 1, by omega, by go_num, hcl _ hc4, hx⟩)
                    (case measure => simp [intOf]; omega)
          · have hj4 : (4 : Int) ≤ (j : Int) := by omega
            have hx : Hid (rowOrd k a 0 f = true) := by rw [Hid, hU.out, List.drop_of_length_le (by rw [HL.out]; omega)]; rfl
            have hx2 : Hid (allOrd f 0 f = allOrd f (k + 1) (f.drop (k + 1))) := by rw [Hid, hT2.out, if_pos hx.out]
            clear hU hT2 hx
            go_wp2
            go_roundw
            (case rel => exact ⟨k + 1, by omega, by go_num, hBl, hx2⟩)
            (case measure => simp [intOf]; omega)
      · have hk4 : (4 : Int) ≤ (k : Int) := by omega
        have hx : Hid (allOrd f 0 f = true) := by rw [Hid, hT.out, List.drop_of_length_le (by rw [HL.out]; omega)]; rfl
        clear hT
        go_wp2
        go_ret
        exact ⟨ret_bool (by rw [hfin.out, hx.out]), hb1.trans (hB.mono hb1.size)⟩
  · have hok' : flashOk f = false := by simpa using hok
    have hfin : Hid (findOrder f = false) := by unfold Hid findOrder; rw [if_neg hok]
    go_enter Try.func64, Try.ntmps64
    go_wp2_with fail
    refine (spec_FlashOk f A c _ hl hF).mono ?_
    rw [hok']
    rintro e w1 ⟨rfl, hb⟩
    go_wp2
    go_ret
    exact ⟨ret_bool (by rw [hfin.out]), hb⟩
end Go.Proofs.Ytbekihiiildgmaa
namespace Go.Proofs.Ytbekihiiildgmaa
set_option linter.unusedVariables false
set_option linter.unusedSimpArgs false
open Go.RowKit
/-- cells that can be read -/
def RRow (w : World) (A : Option Addr) (vs : List Value) : Prop := vs ≠ [] → ∃ b o, A = some ⟨b, o, none⟩ ∧ ∀ j u, vs[j]? = some u → w.cell? ⟨b, o + j, none⟩ = some u
theorem RRow.below {w w' : World} {A : Option Addr} {vs : List Value} {B : Nat} (h : RRow w A vs) (hb : Below B w w') (hB : w.heap.size ≤ B) : RRow w' A vs := fun hn => by
  obtain ⟨b, o, rfl, hc⟩ := h hn
  exact ⟨b, o, rfl, fun j u hj => (hb.cell (p := ⟨b, o + j, none⟩) (by have := lt_of_cell (hc j u hj); show b < B; omega)).trans (hc j u hj)⟩
theorem RRow.alloc {w : World} {A : Option Addr} {vs : List Value} (h : RRow w A vs) (o : Obj) : RRow (w.alloc o) A vs := h.below ((Below.refl _ _).alloc (Nat.le_refl _) o) (Nat.le_refl _)
theorem RRow.addr {w : World} {A : Option Addr} {vs : List Value} (h : RRow w A vs) (hn : vs ≠ []) : ∃ b o, A = some ⟨b, o, none⟩ := by
  obtain ⟨b, o, rfl, _⟩ := h hn; exact ⟨b, o, rfl⟩
theorem RRow.pg {w : World} {b o k : Nat} {ps : List Pg} {p : Pg} (h : RRow w (some ⟨b, o, none⟩) (pgs ps)) (hk : ps[k]? = some p) :
    w.cell? ⟨b, o + k * 5, none⟩ = some (.int .i64 p.state) ∧ w.cell? ⟨b, o + k * 5 + 1, none⟩ = some (.int .i64 p.rc.kind) ∧ w.cell? ⟨b, o + k * 5 + 2, none⟩ = some (.int .i64 p.rc.seq) ∧
      w.cell? ⟨b, o + k * 5 + 3, none⟩ = some (.int .i64 p.rc.addr) ∧ w.cell? ⟨b, o + k * 5 + 4, none⟩ = some (.int .i64 p.rc.val) := by
  have hlt := (List.getElem?_eq_some_iff.1 hk).1
  obtain ⟨b', o', he, hc⟩ := h (by intro e; have := pgs_len ps; rw [e] at this; simp at this; omega)
  cases he
  have hg : ∀ j u, p.vs[j]? = some u → j < 5 → w.cell? ⟨b, o + (k * 5 + j), none⟩ = some u := fun j u hj hl => hc (k * 5 + j) u (by rw [pgs, flat_get _ 5 (fun _ => rfl) ps k j p hk hl]; exact hj)
  exact ⟨hg 0 _ rfl (by omega), hg 1 _ rfl (by omega), hg 2 _ rfl (by omega), hg 3 _ rfl (by omega), hg 4 _ rfl (by omega)⟩
structure RBks (w : World) (A : Option Addr) (f : List Bk) (hs : List (Option Addr × Nat)) : Prop where
  len : hs.length = f.length
  row : RRow w A (hdrs f hs)
  pg : ∀ (i : Nat) (b : Bk) (x : Option Addr × Nat), f[i]? = some b → hs[i]? = some x → RRow w x.1 (pgs b.pages)
theorem RBks.below {w w' : World} {A : Option Addr} {f : List Bk} {hs : List (Option Addr × Nat)} {B : Nat} (h : RBks w A f hs) (hb : Below B w w') (hB : w.heap.size ≤ B) : RBks w' A f hs :=
  ⟨h.len, h.row.below hb hB, fun i b x h1 h2 => (h.pg i b x h1 h2).below hb hB⟩
theorem RBks.addr {w : World} {A : Option Addr} {f : List Bk} {hs : List (Option Addr × Nat)} (h : RBks w A f hs) (hn : f ≠ []) : ∃ b o, A = some ⟨b, o, none⟩ :=
  h.row.addr (by
    intro e
    have hl := hdrs_len f hs h.len
    rw [e] at hl
    exact hn (List.eq_nil_of_length_eq_zero (by simp at hl; omega)))
theorem RBks.at_ {w : World} {g o i : Nat} {f : List Bk} {hs : List (Option Addr × Nat)} {b : Bk} (h : RBks w (some ⟨g, o, none⟩) f hs) (hi : f[i]? = some b) :
    ∃ x, hs[i]? = some x ∧ w.cell? ⟨g, o + i * 2, none⟩ = some (.slice x.1 b.pages.length x.2) ∧ w.cell? ⟨g, o + i * 2 + 1, none⟩ = some (.int .i64 b.worn) ∧ RRow w x.1 (pgs b.pages) := by
  have hlt := (List.getElem?_eq_some_iff.1 hi).1
  obtain ⟨x, hx⟩ := get_some (l := hs) (k := i) (by rw [h.len]; exact hlt)
  obtain ⟨g1, g2⟩ := hdrs_get f hs i b x hi hx
  obtain ⟨b', o', he, hc⟩ := h.row (by intro e; rw [e] at g1; simp at g1)
  cases he
  exact ⟨x, hx, hc _ _ g1, hc _ _ g2, h.pg i b x hi hx⟩
end Go.Proofs.Ytbekihiiildgmaa
namespace Go.Proofs.Ytbekihiiildgmaa
set_option linter.unusedVariables false
set_option linter.unusedSimpArgs false
open Go.RowKit Go.Maps
set_option maxHeartbeats 400000
theorem xor_i64 (a b : Nat) (ha : a < 9223372036854775808) (hb : b < 9223372036854775808) : bits .xor .i64 (a : Int) (b : Int) = ((a ^^^ b : Nat) : Int) := by
  have hx : a ^^^ b < 2 ^ 63 := Nat.xor_lt_two_pow (by omega) (by omega)
  have h1 : (BitVec.ofInt 64 (a : Int)).toNat = a := by
    rw [BitVec.ofInt_natCast, BitVec.toNat_ofNat]; exact Nat.mod_eq_of_lt (by omega)
  have h2 : (BitVec.ofInt 64 (b : Int)).toNat = b := by
    rw [BitVec.ofInt_natCast, BitVec.toNat_ofNat]; exact Nat.mod_eq_of_lt (by omega)
  show IntKind.i64.wrap ((BitVec.ofInt 64 (a : Int) ^^^ BitVec.ofInt 64 (b : Int)).toNat : Int) = _
  rw [BitVec.toNat_xor, h1, h2]
  exact IntWalk.i64_in _ (by omega)
def bytes (bs : List Nat) : List Value := bs.map fun (b : Nat) => Value.int .u8 (b : Int)
/-- a reader in block R, above B, of a code that lies below B; its place is not above m -/
def Rd (w : World) (B R m : Nat) : Prop :=
  ∃ (A : Option Addr) (bs : List Nat) (c p : Nat), w.cell? ⟨R, 0, none⟩ = some (.slice A bs.length c) ∧ w.cell? ⟨R, 1, none⟩ = some (.int .i64 p) ∧ w.frozen? ⟨R, 1, none⟩ = false ∧ p ≤ m ∧ bs.length ≤ 2000 ∧ (∀ b ∈ bs, b < 256) ∧
    RRow w A (bytes bs) ∧ (bs ≠ [] → ∀ b, blk A b → b < B) ∧ B ≤ R
theorem Rd.lt {w : World} {B R m : Nat} (h : Rd w B R m) : R < w.heap.size := by obtain ⟨A, bs, c, p, h1, _⟩ := h; exact lt_of_cell h1
theorem Rd.le {w : World} {B R m : Nat} (h : Rd w B R m) : B ≤ R := by obtain ⟨A, bs, c, p, _, _, _, _, _, _, _, _, h⟩ := h; exact h
theorem Rd.mono {w : World} {B R m n : Nat} (h : Rd w B R m) (hm : m ≤ n) : Rd w B R n := by
  obtain ⟨A, bs, c, p, h1, h2, h3, h4, h5⟩ := h
  exact ⟨A, bs, c, p, h1, h2, h3, by omega, h5⟩
theorem bytes_ne {bs : List Nat} (h : bytes bs ≠ []) : bs ≠ [] := fun e => h (by rw [e]; rfl)
theorem ne_bytes {bs : List Nat} (h : bs ≠ []) : bytes bs ≠ [] := fun e => h (by simpa [bytes] using e)
theorem RRow.low {w : World} {A : Option Addr} {bs : List Nat} (h : RRow w A (bytes bs)) (hn : bs ≠ []) : ∀ b, blk A b → b < w.heap.size := fun b hb => by
  obtain ⟨b', o, rfl, hc⟩ := h (ne_bytes hn)
  rw [blk_some] at hb
  subst hb
  cases bs with
  | nil => exact absurd rfl hn
  | cons x bs => exact lt_of_cell (hc 0 _ rfl)
theorem RRow.keep {w w' : World} {A : Option Addr} {vs : List Value} (h : RRow w A vs) (hk : vs ≠ [] → ∀ b, blk A b → b < w.heap.size → w'.heap[b]? = w.heap[b]?) : RRow w' A vs := fun hn => by
  replace hk := hk hn
  obtain ⟨b, o, rfl, hc⟩ := h hn
  refine ⟨b, o, rfl, fun j u hj => ?_⟩
  have h1 := hc j u hj
  exact (World.cell?_of_block (a := ⟨b, o + j, none⟩) (hk b (blk_some.2 rfl) (lt_of_cell h1))).trans h1
/-- what leaves R's block and the blocks below B as they are leaves the reader -/
theorem Rd.keep {w w' : World} {B R m : Nat} (h : Rd w B R m) (hk : ∀ b, b = R ∨ b < B → b < w.heap.size → w'.heap[b]? = w.heap[b]?) : Rd w' B R m := by
  obtain ⟨A, bs, c, p, h1, h2, h3, h4, h5, h6, h7, h8, h9⟩ := h
  have hR := hk R (.inl rfl) (lt_of_cell h1)
  exact ⟨A, bs, c, p, (World.cell?_of_block (a := ⟨R, 0, none⟩) hR).trans h1, (World.cell?_of_block (a := ⟨R, 1, none⟩) hR).trans h2, (World.frozen?_of_block (a := ⟨R, 1, none⟩) hR).trans h3, h4, h5, h6, h7.keep fun hn b hb hl => hk b (.inr (h8 (bytes_ne hn) b hb)) hl, h8, h9⟩
theorem Rd.agr {w w' : World} {B R m : Nat} {S : Nat → Prop} (h : Rd w B R m) (ha : Agr S w w') (h1 : ¬ S R) (h2 : ∀ b, b < B → ¬ S b) : Rd w' B R m :=
  h.keep fun b hb hl => ha.block b hl (by rcases hb with rfl | hb; exact h1; exact h2 b hb)
theorem Rd.below {w w' : World} {B R m C : Nat} (h : Rd w B R m) (hb : Below C w w') (hC : w.heap.size ≤ C) : Rd w' B R m :=
  h.keep fun b _ hl => hb.block b (by omega)
theorem Rd.alloc {w : World} {B R m : Nat} (h : Rd w B R m) (o : Obj) : Rd (w.alloc o) B R m := h.below (C := w.heap.size) ((Below.refl _ _).alloc (Nat.le_refl _) _) (Nat.le_refl _)
theorem Rd.drew {w : World} {B R m : Nat} (h : Rd w B R m) : Rd w.drew B R m := h.keep fun _ _ _ => rfl
theorem Rd.drewN {w : World} {B R m : Nat} (h : Rd w B R m) (n : Nat) : Rd (w.drewN n) B R m := h.keep fun _ _ _ => rfl
theorem spec_l6Open (A : Option Addr) (bs : List Nat) (c : Nat) (w : World) (hbc : bs.length ≤ c) (hc : c ≤ 9223372036854775807) (hb : ∀ b ∈ bs, b < 256) (hA : RRow w A (bytes bs)) :
    Calls Try.prog 56 #[.slice A bs.length c] w fun e w' => e = .returned (.pointer (some ⟨w.heap.size, 0, none⟩)) ∧ Rd w' w.heap.size w.heap.size 0 ∧ Below w.heap.size w w' := by
  have key : ∀ (bs' : List Nat) (c' : Nat), (bs' ≠ [] → bs ≠ []) → bs'.length ≤ 2000 → (∀ b ∈ bs', b < 256) → RRow w A (bytes bs') → Rd (w.alloc (.cells #[.slice A bs'.length c', .int .i64 0] 131)) w.heap.size w.heap.size 0 := fun bs' c' h0 h1 h2 h3 =>
    ⟨A, bs', c', 0, by simp, by simp, by simp, Nat.le_refl _, h1, h2, h3.alloc _, fun hn => hA.low (h0 hn), Nat.le_refl _⟩
  by_cases hl : bs.length ≤ 2000
  · have hk := key bs c id hl hb hA
    go_enter Try.func56, Try.ntmps56
    go_wp2
    go_ret
    exact ⟨rfl, hk, by (repeat (first | (with_reducible exact Below.refl _ _) | (with_reducible assumption) | (refine Below.setCell ?_ (by first | omega | exact hB.size | exact hb.size | (have h := hB.size; simp; omega) | (have h := hb.size; simp; omega) | (simp; omega) | simp) _) | (refine Below.alloc ?_ (by first | omega | exact hB.size | exact hb.size | (have h := hB.size; simp; omega) | (have h := hb.size; simp; omega) | (simp; omega) | simp) _) | (refine Below.drew ?_)))⟩
  · have hk := key (bs.take 2000) c (fun h e => h (by rw [e]; rfl)) (by simp; omega) (fun b h => hb b (List.mem_of_mem_take h)) (fun hn => by
      have hne : bytes bs ≠ [] := by
        intro e
        have : bs = [] := by simpa [bytes] using e
        exact hn (by rw [this]; simp [bytes])
      obtain ⟨b, o, rfl, hcl⟩ := hA hne
      refine ⟨b, o, rfl, fun j u hj => hcl j u ?_⟩
      rw [bytes, List.map_take] at hj
      rw [List.getElem?_take] at hj
      split at hj
      · exact hj
      · cases hj)
    have hl2 : (2000 : Int) ≤ bs.length := by omega
    have hl3 : (2000 : Int) < bs.length := by omega
    rw [show (bs.take 2000).length = 2000 by simp; omega] at hk
    go_enter Try.func56, Try.ntmps56
    go_wp2
    go_ret
    exact ⟨rfl, hk, by (repeat (first | (with_reducible exact Below.refl _ _) | (with_reducible assumption) | (refine Below.setCell ?_ (by first | omega | exact hB.size | exact hb.size | (have h := hB.size; simp; omega) | (have h := hb.size; simp; omega) | (simp; omega) | simp) _) | (refine Below.alloc ?_ (by first | omega | exact hB.size | exact hb.size | (have h := hB.size; simp; omega) | (have h := hb.size; simp; omega) | (simp; omega) | simp) _) | (refine Below.drew ?_)))⟩
theorem byte_at {w : World} {b o k : Nat} {bs : List Nat} {x : Nat} (h : RRow w (some ⟨b, o, none⟩) (bytes bs)) (hk : bs[k]? = some x) : w.cell? ⟨b, o + k, none⟩ = some (.int .u8 (x : Int)) := by
  have hlt := (List.getElem?_eq_some_iff.1 hk).1
  obtain ⟨b', o', he, hc⟩ := h (by
    intro e
    have : bs = [] := by simpa [bytes] using e
    subst this; simp at hk)
  cases he
  exact hc k _ (by simp [bytes, hk])
theorem mod_lt' {x n : Nat} (h : 1 ≤ n) : x % n < n := Nat.mod_lt _ h
set_option maxHeartbeats 1000000 in
theorem spec_pick (n B R m : Nat) (w : World) (hn : 1 ≤ n) (hn2 : n ≤ 1000000) (hm : m ≤ 1000000) (hR : Rd w B R m) :
    Calls Try.prog 59 #[.pointer (some ⟨R, 0, none⟩), .int .i64 n] w fun e w' => ∃ k : Nat, e = .returned (.int .i64 k) ∧ k < n ∧ Rd w' B R (m + 1) ∧ Agr (· = R) w w' := by
  obtain ⟨A, bs, c, p, h0, h1, h2, h3, h4, h5, h6, h7, h8⟩ := hR
  have hRl := lt_of_cell h0
  have hW := wrote_one h1 (.int .i64 (p + 1))
  have hA : Agr (· = R) w (w.setCell ⟨R, 1, none⟩ (.int .i64 (p + 1))) := hW.agr
  have g0 : (w.setCell ⟨R, 1, none⟩ (.int .i64 (p + 1))).cell? ⟨R, 0, none⟩ = some (.slice A bs.length c) := (hW.old_ 0 (by omega)).trans h0
  have g1 : (w.setCell ⟨R, 1, none⟩ (.int .i64 (p + 1))).cell? ⟨R, 1, none⟩ = some (.int .i64 ((p + 1 : Nat) : Int)) := hW.new_ 0 _ rfl
  have hRd : Rd (w.setCell ⟨R, 1, none⟩ (.int .i64 (p + 1))) B R (m + 1) :=
    ⟨A, bs, c, p + 1, g0, g1, (hW.frozen _).trans h2, by omega, h4, h5, h6.keep fun hn b hb hl => hA.block b hl (by have := h7 (bytes_ne hn) b hb; omega), h7, h8⟩
  have hrow : RRow (w.setCell ⟨R, 1, none⟩ (.int .i64 (p + 1))) A (bytes bs) := h6.keep fun hn b hb hl => hA.block b hl (by have := h7 (bytes_ne hn) b hb; omega)
  clear hW
  have e1 : IntKind.i64.wrap ((p : Int) + 1) = (p : Int) + 1 := IntWalk.i64_in _ (by omega)
  have g1' : (w.setCell ⟨R, 1, none⟩ (.int .i64 (p + 1))).cell? ⟨R, 1, none⟩ = some (.int .i64 ((p : Int) + 1)) := by rw [g1]; rfl
  clear g1
  by_cases hb0 : bs.length = 0
  · have hnil : bs = [] := List.length_eq_zero_iff.1 hb0
    subst hnil
    clear hrow hb0
    go_enter Try.func59, Try.ntmps59
    go_wp2
    go_ret
    exact ⟨0, rfl, by omega, hRd, hA⟩
  · have hbe : ((bs.length : Int) == 0) = false := by rw [beq_eq_false_iff_ne]; omega
    have hn1 : ¬ (n : Int) < 1 := by omega
    by_cases hlt : p < bs.length
    · obtain ⟨x, hx⟩ := get_some hlt
      obtain ⟨b, o, rfl⟩ : ∃ b o, A = some ⟨b, o, none⟩ := h6.addr (by
        intro e
        have : bs = [] := by simpa [bytes] using e
        rw [this] at hlt; simp at hlt)
      have hbR : b < R := by have := h7 (by rintro rfl; simp at *) b (blk_some.2 rfl); omega
      have hc := byte_at h6 hx
      have hx2 := h5 x (List.mem_of_getElem? hx)
      have hpl : (p : Int) < bs.length := by omega
      have hmod : ((x : Int).tmod (n : Int)) = ((x % n : Nat) : Int) := by rw [Int.tmod_eq_emod_of_nonneg (by omega)]; rfl
      have hk := mod_lt' (x := x) hn
      clear hrow
      have HX := Lib.hid hx
      have HM := Lib.hid hmod
      clear hx hmod
      go_enter Try.func59, Try.ntmps59
      go_wp2
      go_ret
      exact ⟨x % n, ret_int (by simp), hk, hRd, hA⟩
    · obtain ⟨b, o, rfl⟩ : ∃ b o, A = some ⟨b, o, none⟩ := h6.addr (by
        intro e
        have : bs = [] := by simpa [bytes] using e
        rw [this] at hb0; simp at hb0)
      have hbR : b < R := by have := h7 (by rintro rfl; simp at *) b (blk_some.2 rfl); omega
      have hL0 : 1 ≤ bs.length := by omega
      obtain ⟨x, hx⟩ := get_some (mod_lt' (x := p) hL0)
      obtain ⟨y, hy⟩ := get_some (mod_lt' (x := p * 7 + 3) hL0)
      have hc := byte_at h6 hx
      have hc' := byte_at h6 hy
      have hx2 := h5 x (List.mem_of_getElem? hx)
      have hy2 := h5 y (List.mem_of_getElem? hy)
      have hpl : (bs.length : Int) ≤ p := by omega
      have hL1 : (1 : Int) ≤ bs.length := by omega
      have hdl : p / bs.length ≤ p := Nat.div_le_self _ _
      have m1 := mod_lt' (x := p) hL0
      have m2 := mod_lt' (x := p * 7 + 3) hL0
      have v1 : (p : Int).tmod (bs.length : Int) = ((p % bs.length : Nat) : Int) := by rw [Int.tmod_eq_emod_of_nonneg (by omega)]; rfl
      have v2 : ((p : Int) * 7 + 3).tmod (bs.length : Int) = (((p * 7 + 3) % bs.length : Nat) : Int) := by rw [Int.tmod_eq_emod_of_nonneg (by omega)]; rfl
      have v3 : (p : Int).tdiv (bs.length : Int) = ((p / bs.length : Nat) : Int) := by rw [Int.tdiv_eq_ediv_of_nonneg (by omega)]; rfl
      generalize p / bs.length = q at *
      generalize p % bs.length = q1 at *
      generalize (p * 7 + 3) % bs.length = q2 at *
      have n1 : (q1 : Int) < bs.length := by omega
      have n2 : (q2 : Int) < bs.length := by omega
      have w1 : IntKind.i64.wrap ((p : Int) * 7) = (p : Int) * 7 := IntWalk.i64_in _ (by omega)
      have w2 : IntKind.i64.wrap ((p : Int) * 7 + 3) = (p : Int) * 7 + 3 := IntWalk.i64_in _ (by omega)
      have w3 : IntKind.i64.wrap ((x : Int) * 131) = (x : Int) * 131 := IntWalk.i64_in _ (by omega)
      have w4 : IntKind.i64.wrap ((y : Int) * 1117) = (y : Int) * 1117 := IntWalk.i64_in _ (by omega)
      have w5 : IntKind.i64.wrap ((x : Int) * 131 + (y : Int) * 1117) = (x : Int) * 131 + (y : Int) * 1117 := IntWalk.i64_in _ (by omega)
      have w6 : IntKind.i64.wrap ((p : Int) * 29) = (p : Int) * 29 := IntWalk.i64_in _ (by omega)
      have w7 : IntKind.i64.wrap ((x : Int) * 131 + (y : Int) * 1117 + (p : Int) * 29) = (x : Int) * 131 + (y : Int) * 1117 + (p : Int) * 29 := IntWalk.i64_in _ (by omega)
      have w8 : IntKind.i64.wrap ((q : Int) * 53) = (q : Int) * 53 := IntWalk.i64_in _ (by omega)
      have w9 : IntKind.i64.wrap ((x : Int) * 131 + (y : Int) * 1117 + (p : Int) * 29 + (q : Int) * 53) = (x : Int) * 131 + (y : Int) * 1117 + (p : Int) * 29 + (q : Int) * 53 := IntWalk.i64_in _ (by omega)
      clear hx hy
      go_enter Try.func59, Try.ntmps59
      go_wp2
      go_quiet (fail)
      obtain ⟨X, hX, hXl⟩ : ∃ X : Nat, (x : Int) * 131 + (y : Int) * 1117 + (p : Int) * 29 + (q : Int) * 53 = (X : Int) ∧ X < 1000000000000 := ⟨x * 131 + y * 1117 + p * 29 + q * 53, by simp, by omega⟩
      rw [hX]
      clear hX w1 w2 w3 w4 w5 w6 w7 w8 w9 v1 v2 v3
      have hx1 : bits .xor .i64 (X : Int) ((X : Int) / 64) = ((X ^^^ X / 64 : Nat) : Int) := xor_i64 X (X / 64) (by omega) (by omega)
      have hx2 : bits .xor .i64 (X : Int) ((X : Int).tdiv 64) = ((X ^^^ X / 64 : Nat) : Int) := by rw [Int.tdiv_eq_ediv_of_nonneg (by omega)]; exact hx1
      generalize X ^^^ X / 64 = z at *
      have hk := mod_lt' (x := z) hn
      have hmod : ((z : Int).tmod (n : Int)) = ((z % n : Nat) : Int) := by rw [Int.tmod_eq_emod_of_nonneg (by omega)]; rfl
      have HM := Lib.hid hmod
      clear hmod
      go_wp2
      go_ret
      exact ⟨z % n, ret_int (by simp), hk, hRd.drewN _, hA.drewN _⟩
end Go.Proofs.Ytbekihiiildgmaa
namespace Go.Proofs.Ytbekihiiildgmaa
set_option linter.unusedVariables false
set_option linter.unusedSimpArgs false
open Go.RowKit Go.Maps
set_option maxHeartbeats 400000
theorem Row.sp {w : World} {b o k : Nat} {xs : List Sp} {x : Sp} (h : Row w (some ⟨b, o, none⟩) (sps xs)) (hk : xs[k]? = some x) :
    w.cell? ⟨b, o + k * 8, none⟩ = some (.int .i64 x.kind) ∧ w.cell? ⟨b, o + k * 8 + 1, none⟩ = some (.int .i64 x.addr) ∧ w.cell? ⟨b, o + k * 8 + 2, none⟩ = some (.int .i64 x.val) ∧ w.cell? ⟨b, o + k * 8 + 3, none⟩ = some (.int .i64 x.block) ∧
    w.cell? ⟨b, o + k * 8 + 4, none⟩ = some (.int .i64 x.rc.kind) ∧ w.cell? ⟨b, o + k * 8 + 5, none⟩ = some (.int .i64 x.rc.seq) ∧ w.cell? ⟨b, o + k * 8 + 6, none⟩ = some (.int .i64 x.rc.addr) ∧ w.cell? ⟨b, o + k * 8 + 7, none⟩ = some (.int .i64 x.rc.val) := by
  have hlt := (List.getElem?_eq_some_iff.1 hk).1
  obtain ⟨b', o', he, hc⟩ := h (by intro e; have := sps_len xs; rw [e] at this; simp at this; omega)
  cases he
  have hg : ∀ j u, x.vs[j]? = some u → j < 8 → w.cell? ⟨b, o + (k * 8 + j), none⟩ = some u := fun j u hj hl => (hc (k * 8 + j) u (by rw [sps, flat_get _ 8 (fun _ => rfl) xs k j x hk hl]; exact hj)).1
  exact ⟨hg 0 _ rfl (by omega), hg 1 _ rfl (by omega), hg 2 _ rfl (by omega), hg 3 _ rfl (by omega), hg 4 _ rfl (by omega), hg 5 _ rfl (by omega), hg 6 _ rfl (by omega), hg 7 _ rfl (by omega)⟩
theorem doAllOf_snoc (s : St) (xs : List Sp) (x : Sp) : doAllOf s (xs ++ [x]) = doStep (doAllOf s xs) x false := by
  unfold doAllOf; rw [List.foldl_append]; rfl
theorem doAllOf_take {xs : List Sp} {k : Nat} {x : Sp} (s : St) (h : xs[k]? = some x) : doAllOf s (xs.take (k + 1)) = doStep (doAllOf s (xs.take k)) x false := by
  rw [List.take_add_one, h]; exact doAllOf_snoc _ _ _
theorem OSt.drew {w : World} {lo hi : Nat} {A D : Option Addr} {f : List Bk} {xs : List Int} (h : OSt w lo hi A f D xs) : OSt w.drew lo hi A f D xs := h.keep fun _ _ _ _ => rfl
set_option maxHeartbeats 4000000 in
set_option maxRecDepth 100000 in
theorem spec_l12To (s : St) (xs : List Sp) (cut : Int) (torn : Bool) (A D V : Option Addr) (c d cs lo hi : Nat) (w : World) (hs : stFine s) (hx : ∀ x ∈ xs, spFine x) (hl : xs.length < 1000000000000) (hhi : hi ≤ w.heap.size) (hO : OSt w lo hi A s.flash D s.disk) (hX : Row w V (sps xs)) (hV : ∀ b, blk V b → ¬ (lo ≤ b ∧ b < hi)) :
    Calls Try.prog 83 #[.agg #[.slice A 4 c, .slice D 6 d], .slice V xs.length cs, .int .i64 cut, .bool torn] w fun r w' =>
      r = .returned (.agg #[.slice A 4 c, .slice D 6 d]) ∧ OSt w' lo hi A (doTo s xs cut torn).flash D (doTo s xs cut torn).disk ∧ Agr (fun b => lo ≤ b ∧ b < hi) w w' := by
  have HX := Lib.hid hx
  have HS := Lib.hid hs
  have HV := Lib.hid hV
  clear hx hs hV
  go_enter Try.func83, Try.ntmps83
  go_wp2
  go_loopw [9] (fun i wr => ∃ k : Nat, k ≤ xs.length ∧ i = .int .i64 k ∧ (k : Int) ≤ max cut 0 ∧ OSt wr lo hi A (doAllOf s (xs.take k)).flash D (doAllOf s (xs.take k)).disk ∧ Agr (fun b => lo ≤ b ∧ b < hi) w wr ∧ w.heap.size + 1 < wr.heap.size ∧
    (wr.cell? ⟨w.heap.size, 0, none⟩ = some (.slice A 4 c) ∧ wr.cell? ⟨w.heap.size, 1, none⟩ = some (.slice D 6 d) ∧ wr.frozen? ⟨w.heap.size, 0, none⟩ = false ∧ wr.frozen? ⟨w.heap.size, 1, none⟩ = false) ∧
    (∃ u0 u1, wr.cell? ⟨w.heap.size + 1, 0, none⟩ = some u0 ∧ wr.cell? ⟨w.heap.size + 1, 1, none⟩ = some u1 ∧ wr.frozen? ⟨w.heap.size + 1, 0, none⟩ = false ∧ wr.frozen? ⟨w.heap.size + 1, 1, none⟩ = false)) (fun i _ => xs.length - (intOf i).toNat)
  case atStart =>
    have hN := Row.new (w.alloc (.cells #[.slice A 4 c, .slice D 6 d] 26)) #[.slice none 0 0, .slice none 0 0] 26
    simp only [World.size_alloc] at hN
    have hM := (Row.new w #[.slice A 4 c, .slice D 6 d] 26).alloc (.cells #[.slice none 0 0, .slice none 0 0] 26)
    exact ⟨0, by omega, rfl, by omega, (hO.alloc' _).alloc' _, ((Agr.refl _ _).alloc _).alloc _, by simp, ⟨(hM.at0 (j := 0) rfl).1, (hM.at0 (j := 1) rfl).1, (hM.at0 (j := 0) rfl).2, (hM.at0 (j := 1) rfl).2⟩, ⟨_, _, (hN.at0 (j := 0) rfl).1, (hN.at0 (j := 1) rfl).1, (hN.at0 (j := 0) rfl).2, (hN.at0 (j := 1) rfl).2⟩⟩
  case round =>
    obtain ⟨k, hk, rfl, hkc, hOk, hA, hsz, ⟨b0, b1, b2, b3⟩, ⟨u0, u1, q0, q1, q2, q3⟩⟩ := hrel
    by_cases hgo : k < xs.length ∧ (k : Int) < cut
    · obtain ⟨hlt, hct⟩ := hgo
      obtain ⟨x, hxk⟩ := get_some hlt
      have hxf := HX.out x (List.mem_of_getElem? hxk)
      have hst := doAllOf_fine (xs := xs.take k) HS.out (fun y hy => HX.out y (List.mem_of_mem_take hy))
      have hXk := hX.agr hA HV.out
      obtain ⟨vb, vo, rfl⟩ := hXk.addr (by intro e; have := sps_len xs; rw [e] at this; simp at this; omega)
      obtain ⟨c0, c1, c2, c3, c4, c5, c6, c7⟩ := hXk.sp hxk
      have hst2 := doAllOf_take s hxk
      have HT := Lib.hid hst2
      have hk1 : (k : Int) < xs.length := by omega
      clear hst2 hxk hXk
      go_wp2
      have hle : hi ≤ wr.drew.heap.size := by show hi ≤ wr.heap.size; omega
      have hn0 : ¬ (lo ≤ w.heap.size ∧ w.heap.size < hi) := by omega
      have hl0 : w.heap.size < wr.drew.heap.size := by show w.heap.size < wr.heap.size; omega
      have hOd := hOk.drew
      have g0 : wr.drew.cell? ⟨w.heap.size, 0, none⟩ = some (.slice A 4 c) := b0
      have g1 : wr.drew.cell? ⟨w.heap.size, 1, none⟩ = some (.slice D 6 d) := b1
      have g2 : wr.drew.frozen? ⟨w.heap.size, 0, none⟩ = false := b2
      have g3 : wr.drew.frozen? ⟨w.heap.size, 1, none⟩ = false := b3
      go_region_with (first | (go_at_call 134; refine (spec_l12Do (doAllOf s (xs.take k)) x false A D c d lo hi _ hst hxf hle hOd).mono ?_; rintro e w1 ⟨rfl, hO1, hA1⟩; have d0 := (hA1.cell hl0 hn0 0).trans g0; have d1 := (hA1.cell hl0 hn0 1).trans g1; have d2 := (hA1.fz hl0 hn0 0).trans g2; have d3 := (hA1.fz hl0 hn0 1).trans g3))
      all_goals
        have hn1 : ¬ (lo ≤ w.heap.size + 1 ∧ w.heap.size + 1 < hi) := by omega
        have hl1 : w.heap.size + 1 < wr.drew.heap.size := hsz
        have r0 := (hA1.cell hl1 hn1 0).trans (show wr.drew.cell? ⟨w.heap.size + 1, 0, none⟩ = some u0 from q0)
        have r1 := (hA1.cell hl1 hn1 1).trans (show wr.drew.cell? ⟨w.heap.size + 1, 1, none⟩ = some u1 from q1)
        have r2 := (hA1.fz hl1 hn1 0).trans (show wr.drew.frozen? ⟨w.heap.size + 1, 0, none⟩ = false from q2)
        have r3 := (hA1.fz hl1 hn1 1).trans (show wr.drew.frozen? ⟨w.heap.size + 1, 1, none⟩ = false from q3)
        have hA2 := hA.drew.trans hA1 (fun b _ hb => hb)
        have hs1 : wr.heap.size ≤ w1.heap.size := hA1.size
        rw [← HT.out] at hO1
        have hW : Wrote w1 ((w1.setCell ⟨w.heap.size, 0, none⟩ (.slice A 4 c)).setCell ⟨w.heap.size, 1, none⟩ (.slice D 6 d)) w.heap.size 0 [.slice A 4 c, .slice D 6 d] := wrote_setRow w.heap.size [.slice A 4 c, .slice D 6 d] 0 w1 (fun j hj => by
          match j, hj with
          | 0, _ => exact ⟨_, d0⟩
          | 1, _ => exact ⟨_, d1⟩)
        have hO3 : OSt _ lo hi A (doAllOf s (xs.take (k + 1))).flash D (doAllOf s (xs.take (k + 1))).disk := hO1.keep fun b h1 h2 _ => hW.block b (by omega)
        have hA3 := hA2.trans (S' := (· = w.heap.size)) hW.agr (fun b hb e => by omega)
        have t0 := hW.new_ 0 _ rfl
        have t1 := hW.new_ 1 _ rfl
        have t2 := (hW.frozen ⟨w.heap.size, 0, none⟩).trans d2
        have t3 := (hW.frozen ⟨w.heap.size, 1, none⟩).trans d3
        have s0 := (hW.agr.cell (b := w.heap.size + 1) (by omega) (by omega) 0).trans r0
        have s1 := (hW.agr.cell (b := w.heap.size + 1) (by omega) (by omega) 1).trans r1
        have s2 := (hW.frozen ⟨w.heap.size + 1, 0, none⟩).trans r2
        have s3 := (hW.frozen ⟨w.heap.size + 1, 1, none⟩).trans r3
        have hss := hW.size
        clear hW
        go_wp2
        go_roundw
        (case rel => exact ⟨k + 1, by omega, by go_num, by omega, hO3, hA3, by omega, ⟨t0, t1, t2, t3⟩, ⟨u0, u1, s0, s1, s2, s3⟩⟩)
        (case measure => simp [intOf]; omega)
    · have hT : Hid (doAllOf s (xs.take k) = doAllOf s (xs.take cut.toNat)) := by
        rw [Hid]
        congr 1
        by_cases h : k < xs.length
        · have : ¬ (k : Int) < cut := fun h2 => hgo ⟨h, h2⟩
          rw [show cut.toNat = k by omega]
        · rw [List.take_of_length_le (by omega)]
          by_cases h2 : xs.length ≤ cut.toNat
          · rw [List.take_of_length_le h2]
          · rw [show cut.toNat = xs.length by omega, List.take_of_length_le (Nat.le_refl _)]
      have hgd : (k : Int) < xs.length → ¬ (k : Int) < cut := fun h h2 => hgo ⟨by omega, h2⟩
      rw [hT.out] at hOk
      clear hgo
      cases torn
      · have h3 : Hid (doTo s xs cut false = doAllOf s (xs.take cut.toNat)) := by unfold Hid doTo; rw [if_neg (by simp)]
        by_cases hlt : (k : Int) < xs.length
        · have hct := hgd hlt
          go_wp2
          refine bodyPost_ret (v := .agg #[.slice A 4 c, .slice D 6 d]) (by simp [results, Try.results83, go_sem, b0, b1, q0, q1]) rfl ⟨rfl, ?_, ?_⟩
          · rw [h3.out]
            have hbb : Below w.heap.size wr ((wr.setCell ⟨w.heap.size + 1, 0, none⟩ (.slice A 4 c)).setCell ⟨w.heap.size + 1, 1, none⟩ (.slice D 6 d)) := by (repeat (first | (with_reducible exact Below.refl _ _) | (with_reducible assumption) | (refine Below.setCell ?_ (by first | omega | exact hB.size | exact hb.size | (have h := hB.size; simp; omega) | (have h := hb.size; simp; omega) | (simp; omega) | simp) _) | (refine Below.alloc ?_ (by first | omega | exact hB.size | exact hb.size | (have h := hB.size; simp; omega) | (have h := hb.size; simp; omega) | (simp; omega) | simp) _) | (refine Below.drew ?_)))
            exact hOk.keep fun y _ h2 _ => hbb.block y (by omega)
          · exact (hA.setCell (.inl (by show w.heap.size ≤ w.heap.size + 1; omega)) _).setCell (.inl (by show w.heap.size ≤ w.heap.size + 1; omega)) _
        · go_wp2
          refine bodyPost_ret (v := .agg #[.slice A 4 c, .slice D 6 d]) (by simp [results, Try.results83, go_sem, b0, b1, q0, q1]) rfl ⟨rfl, ?_, ?_⟩
          · rw [h3.out]
            have hbb : Below w.heap.size wr ((wr.setCell ⟨w.heap.size + 1, 0, none⟩ (.slice A 4 c)).setCell ⟨w.heap.size + 1, 1, none⟩ (.slice D 6 d)) := by (repeat (first | (with_reducible exact Below.refl _ _) | (with_reducible assumption) | (refine Below.setCell ?_ (by first | omega | exact hB.size | exact hb.size | (have h := hB.size; simp; omega) | (have h := hb.size; simp; omega) | (simp; omega) | simp) _) | (refine Below.alloc ?_ (by first | omega | exact hB.size | exact hb.size | (have h := hB.size; simp; omega) | (have h := hb.size; simp; omega) | (simp; omega) | simp) _) | (refine Below.drew ?_)))
            exact hOk.keep fun y _ h2 _ => hbb.block y (by omega)
          · exact (hA.setCell (.inl (by show w.heap.size ≤ w.heap.size + 1; omega)) _).setCell (.inl (by show w.heap.size ≤ w.heap.size + 1; omega)) _
      · have h3n : ¬ (0 ≤ cut ∧ cut < xs.length) → Hid (doTo s xs cut true = doAllOf s (xs.take cut.toNat)) := by intro h; unfold Hid doTo; rw [if_neg (by simpa using h)]
        have h3p : (0 ≤ cut ∧ cut < xs.length) → Hid (doTo s xs cut true = doStep (doAllOf s (xs.take cut.toNat)) (xs.getD cut.toNat ⟨0, 0, 0, 0, rc0⟩) true) := by intro h; unfold Hid doTo; rw [if_pos (by simpa using h)]
        by_cases hlt : (k : Int) < xs.length
        · have hct := hgd hlt
          by_cases h0 : 0 ≤ cut
          · obtain rfl : cut = k := by omega
            have hst := doAllOf_fine (xs := xs.take (k : Int).toNat) HS.out (fun y hy => HX.out y (List.mem_of_mem_take hy))
            obtain ⟨x, hxk⟩ := get_some (l := xs) (k := k) (by omega)
            have hxf := HX.out x (List.mem_of_getElem? hxk)
            have hXk := hX.agr hA HV.out
            obtain ⟨vb, vo, rfl⟩ := hXk.addr (by intro e; have := sps_len xs; rw [e] at this; simp at this; omega)
            obtain ⟨c0, c1, c2, c3, c4, c5, c6, c7⟩ := hXk.sp hxk
            have h3 : Hid (doTo s xs k true = doStep (doAllOf s (xs.take (k : Int).toNat)) x true) := by
              rw [Hid, (h3p ⟨by omega, by omega⟩).out, Int.toNat_natCast, List.getD_eq_getElem?_getD, hxk]; rfl
            have hk0 : (0 : Int) ≤ k := by omega
            have hk1 : (k : Int) ≤ xs.length - 1 := by omega
            clear h3p h3n hxk hXk hgd
            go_wp2_with fail
            refine (spec_l6In _ _ _ _).mono ?_
            rintro e w1 ⟨rfl, rfl⟩
            rw [show (decide ((0 : Int) ≤ k) && decide ((k : Int) ≤ xs.length - 1)) = true from by simp [hk0, hk1]]
            go_wp2
            have hle : hi ≤ wr.drew.heap.size := by show hi ≤ wr.heap.size; omega
            have hn0 : ¬ (lo ≤ w.heap.size ∧ w.heap.size < hi) := by omega
            have hl0 : w.heap.size < wr.drew.heap.size := by show w.heap.size < wr.heap.size; omega
            have hOd := hOk.drew
            have g0 : wr.drew.cell? ⟨w.heap.size, 0, none⟩ = some (.slice A 4 c) := b0
            have g1 : wr.drew.cell? ⟨w.heap.size, 1, none⟩ = some (.slice D 6 d) := b1
            have g2 : wr.drew.frozen? ⟨w.heap.size, 0, none⟩ = false := b2
            have g3 : wr.drew.frozen? ⟨w.heap.size, 1, none⟩ = false := b3
            go_region_with (first | (go_at_call 134; refine (spec_l12Do (doAllOf s (xs.take (k : Int).toNat)) x true A D c d lo hi _ hst hxf hle hOd).mono ?_; rintro e w1 ⟨rfl, hO1, hA1⟩; have d0 := (hA1.cell hl0 hn0 0).trans g0; have d1 := (hA1.cell hl0 hn0 1).trans g1; have d2 := (hA1.fz hl0 hn0 0).trans g2; have d3 := (hA1.fz hl0 hn0 1).trans g3))
            all_goals
              have hn1 : ¬ (lo ≤ w.heap.size + 1 ∧ w.heap.size + 1 < hi) := by omega
              have hl1 : w.heap.size + 1 < wr.drew.heap.size := hsz
              have r0 := (hA1.cell hl1 hn1 0).trans (show wr.drew.cell? ⟨w.heap.size + 1, 0, none⟩ = some u0 from q0)
              have r1 := (hA1.cell hl1 hn1 1).trans (show wr.drew.cell? ⟨w.heap.size + 1, 1, none⟩ = some u1 from q1)
              have r2 := (hA1.fz hl1 hn1 0).trans (show wr.drew.frozen? ⟨w.heap.size + 1, 0, none⟩ = false from q2)
              have r3 := (hA1.fz hl1 hn1 1).trans (show wr.drew.frozen? ⟨w.heap.size + 1, 1, none⟩ = false from q3)
              have hA2 := hA.drew.trans hA1 (fun b _ hb => hb)
              have hs1 : wr.heap.size ≤ w1.heap.size := hA1.size
              have hW : Wrote w1 ((w1.setCell ⟨w.heap.size, 0, none⟩ (.slice A 4 c)).setCell ⟨w.heap.size, 1, none⟩ (.slice D 6 d)) w.heap.size 0 [.slice A 4 c, .slice D 6 d] := wrote_setRow w.heap.size [.slice A 4 c, .slice D 6 d] 0 w1 (fun j hj => by
                match j, hj with
                | 0, _ => exact ⟨_, d0⟩
                | 1, _ => exact ⟨_, d1⟩)
              have hO3 : OSt _ lo hi A (doStep (doAllOf s (xs.take (k : Int).toNat)) x true).flash D (doStep (doAllOf s (xs.take (k : Int).toNat)) x true).disk := hO1.keep fun b h1 h2 _ => hW.block b (by omega)
              have hA3 := hA2.trans (S' := (· = w.heap.size)) hW.agr (fun b hb e => by omega)
              have t0 := hW.new_ 0 _ rfl
              have t1 := hW.new_ 1 _ rfl
              have s0 := (hW.agr.cell (b := w.heap.size + 1) (by omega) (by omega) 0).trans r0
              have s1 := (hW.agr.cell (b := w.heap.size + 1) (by omega) (by omega) 1).trans r1
              have s2 := (hW.frozen ⟨w.heap.size + 1, 0, none⟩).trans r2
              have s3 := (hW.frozen ⟨w.heap.size + 1, 1, none⟩).trans r3
              have hss := hW.size
              clear hW
              go_wp2
              refine bodyPost_ret (v := .agg #[.slice A 4 c, .slice D 6 d]) (by simp [results, Try.results83, go_sem, t0, t1, s0, s1]) rfl ⟨rfl, ?_, ?_⟩
              · rw [h3.out]
                refine hO3.keep fun y _ h2 _ => ?_
                rw [Below.heap_setCell _ _ _ _ (by show y ≠ w.heap.size + 1; omega), Below.heap_setCell _ _ _ _ (by show y ≠ w.heap.size + 1; omega)]
              · exact (hA3.setCell (.inl (by show w.heap.size ≤ w.heap.size + 1; omega)) _).setCell (.inl (by show w.heap.size ≤ w.heap.size + 1; omega)) _
          · have h3 := h3n (by omega)
            have e0 : decide (0 ≤ cut) = false := by simpa using h0
            go_wp2_with fail
            refine (spec_l6In _ _ _ _).mono ?_
            rintro e w1 ⟨rfl, rfl⟩
            rw [e0, Bool.false_and]
            go_wp2
            refine bodyPost_ret (v := .agg #[.slice A 4 c, .slice D 6 d]) (by simp [results, Try.results83, go_sem, b0, b1, q0, q1]) rfl ⟨rfl, ?_, ?_⟩
            · rw [h3.out]
              have hbb : Below w.heap.size wr ((wr.setCell ⟨w.heap.size + 1, 0, none⟩ (.slice A 4 c)).setCell ⟨w.heap.size + 1, 1, none⟩ (.slice D 6 d)) := by (repeat (first | (with_reducible exact Below.refl _ _) | (with_reducible assumption) | (refine Below.setCell ?_ (by first | omega | exact hB.size | exact hb.size | (have h := hB.size; simp; omega) | (have h := hb.size; simp; omega) | (simp; omega) | simp) _) | (refine Below.alloc ?_ (by first | omega | exact hB.size | exact hb.size | (have h := hB.size; simp; omega) | (have h := hb.size; simp; omega) | (simp; omega) | simp) _) | (refine Below.drew ?_)))
              exact hOk.keep fun y _ h2 _ => hbb.block y (by omega)
            · exact (hA.setCell (.inl (by show w.heap.size ≤ w.heap.size + 1; omega)) _).setCell (.inl (by show w.heap.size ≤ w.heap.size + 1; omega)) _
        · have h3 := h3n (by omega)
          have e0 : (decide (0 ≤ cut) && decide (cut ≤ (xs.length : Int) - 1)) = false := by simp; omega
          go_wp2_with fail
          refine (spec_l6In _ _ _ _).mono ?_
          rintro e w1 ⟨rfl, rfl⟩
          rw [e0]
          go_wp2
          refine bodyPost_ret (v := .agg #[.slice A 4 c, .slice D 6 d]) (by simp [results, Try.results83, go_sem, b0, b1, q0, q1]) rfl ⟨rfl, ?_, ?_⟩
          · rw [h3.out]
            have hbb : Below w.heap.size wr ((wr.setCell ⟨w.heap.size + 1, 0, none⟩ (.slice A 4 c)).setCell ⟨w.heap.size + 1, 1, none⟩ (.slice D 6 d)) := by (repeat (first | (with_reducible exact Below.refl _ _) | (with_reducible assumption) | (refine Below.setCell ?_ (by first | omega | exact hB.size | exact hb.size | (have h := hB.size; simp; omega) | (have h := hb.size; simp; omega) | (simp; omega) | simp) _) | (refine Below.alloc ?_ (by first | omega | exact hB.size | exact hb.size | (have h := hB.size; simp; omega) | (have h := hb.size; simp; omega) | (simp; omega) | simp) _) | (refine Below.drew ?_)))
            exact hOk.keep fun y _ h2 _ => hbb.block y (by omega)
          · exact (hA.setCell (.inl (by show w.heap.size ≤ w.heap.size + 1; omega)) _).setCell (.inl (by show w.heap.size ≤ w.heap.size + 1; omega)) _
end Go.Proofs.Ytbekihiiildgmaa
namespace Go.Proofs.Ytbekihiiildgmaa
set_option linter.unusedVariables false
set_option linter.unusedSimpArgs false
open Go.RowKit Go.Maps
set_option maxHeartbeats 400000
def upto (s : St) : Nat → St
  | 0 => s
  | k + 1 => doFlush (upto s k) (k + 1)
theorem upto_six (s : St) : upto s 6 = doEvery s := by
  simp only [upto, doEvery, List.foldl_cons, List.foldl_nil]
  generalize doFlush = F
  rfl
theorem upto_fine {s : St} (h : stFine s) : ∀ k, stFine (upto s k)
  | 0 => h
  | k + 1 => doFlush_fine (upto_fine h k) _
theorem stFine_pages {s : St} (h : stFine s) : ∀ b ∈ s.flash, b.pages.length = 4 := fun b hb => (h.1.2 b hb).1
theorem flush_len {s : St} (h : stFine s) (a : Int) : (flush s a).length ≤ 7 := by
  have := wr_len h.1.1 (stFine_pages h) 2 a (readV s a)
  unfold flush
  split
  · simp
  · split
    · simp
    · simp only [List.length_cons]; omega
set_option maxHeartbeats 4000000 in
set_option maxRecDepth 100000 in
theorem spec_l21All (s : St) (A D : Option Addr) (c d lo hi : Nat) (w : World) (hs : stFine s) (hhi : hi ≤ w.heap.size) (hO : OSt w lo hi A s.flash D s.disk) :
    Calls Try.prog 111 #[.agg #[.slice A 4 c, .slice D 6 d]] w fun r w' =>
      r = .returned (.agg #[.slice A 4 c, .slice D 6 d]) ∧ OSt w' lo hi A (doEvery s).flash D (doEvery s).disk ∧ Agr (fun b => lo ≤ b ∧ b < hi) w w' := by
  have HS := Lib.hid hs
  clear hs
  go_enter Try.func111, Try.ntmps111
  go_wp2
  go_loopw [3] (fun i wr => ∃ k : Nat, k ≤ 6 ∧ i = .int .i64 (k + 1) ∧ OSt wr lo hi A (upto s k).flash D (upto s k).disk ∧ Agr (fun b => lo ≤ b ∧ b < hi) w wr ∧ w.heap.size + 1 < wr.heap.size ∧
    (wr.cell? ⟨w.heap.size, 0, none⟩ = some (.slice A 4 c) ∧ wr.cell? ⟨w.heap.size, 1, none⟩ = some (.slice D 6 d) ∧ wr.frozen? ⟨w.heap.size, 0, none⟩ = false ∧ wr.frozen? ⟨w.heap.size, 1, none⟩ = false) ∧
    (∃ u0 u1, wr.cell? ⟨w.heap.size + 1, 0, none⟩ = some u0 ∧ wr.cell? ⟨w.heap.size + 1, 1, none⟩ = some u1 ∧ wr.frozen? ⟨w.heap.size + 1, 0, none⟩ = false ∧ wr.frozen? ⟨w.heap.size + 1, 1, none⟩ = false)) (fun i _ => 7 - (intOf i).toNat)
  case atStart =>
    have hN := Row.new (w.alloc (.cells #[.slice A 4 c, .slice D 6 d] 26)) #[.slice none 0 0, .slice none 0 0] 26
    simp only [World.size_alloc] at hN
    have hM := (Row.new w #[.slice A 4 c, .slice D 6 d] 26).alloc (.cells #[.slice none 0 0, .slice none 0 0] 26)
    exact ⟨0, by omega, rfl, (hO.alloc' _).alloc' _, ((Agr.refl _ _).alloc _).alloc _, by simp, ⟨(hM.at0 (j := 0) rfl).1, (hM.at0 (j := 1) rfl).1, (hM.at0 (j := 0) rfl).2, (hM.at0 (j := 1) rfl).2⟩, ⟨_, _, (hN.at0 (j := 0) rfl).1, (hN.at0 (j := 1) rfl).1, (hN.at0 (j := 0) rfl).2, (hN.at0 (j := 1) rfl).2⟩⟩
  case round =>
    obtain ⟨k, hk, rfl, hOk, hA, hsz, ⟨b0, b1, b2, b3⟩, ⟨u0, u1, q0, q1, q2, q3⟩⟩ := hrel
    by_cases hlt : k < 6
    · have hst := Lib.hid (upto_fine HS.out k)
      have hk1 : (k : Int) + 1 ≤ 6 := by omega
      go_wp2_with fail
      refine (spec_l12Flush (upto s k) (k + 1) A D c d _ hst.out.1.1 (stFine_pages hst.out) (most_small hst.out.1) hst.out.2.1 hOk.ofl.fl hOk.disk).mono ?_
      rintro e w1 ⟨v, rfl, hOS, hb⟩
      obtain ⟨V, cs, rfl, hcs, hRow, hblk⟩ := hOS.shape
      have hff := Lib.hid (flush_fine hst.out (k + 1))
      have hfl := flush_len hst.out (k + 1)
      have hO1 := hOk.below hb (Nat.le_refl _)
      have hA1 := hA.trans (S' := fun _ => False) (Agr.of_below hb) (fun b hb e => absurd e id)
      have hs1 := hb.size
      obtain ⟨hc, hfz⟩ := bcell hb
      replace b0 := (hc _ _ (by omega)).trans b0
      replace b1 := (hc _ _ (by omega)).trans b1
      replace b2 := (hfz _ _ (by omega)).trans b2
      replace b3 := (hfz _ _ (by omega)).trans b3
      replace q0 := (hc _ _ (by omega)).trans q0
      replace q1 := (hc _ _ (by omega)).trans q1
      replace q2 := (hfz _ _ (by omega)).trans q2
      replace q3 := (hfz _ _ (by omega)).trans q3
      have hfin : Hid (doTo (upto s k) (flush (upto s k) (k + 1)) (flush (upto s k) (k + 1)).length false = upto s (k + 1)) := rfl
      generalize flush (upto s k) (k + 1) = xs at *
      clear hb hc hfz hOk hA hOS
      go_wp2_with fail
      have hsz0 := hA1.size
      refine (spec_l12To (upto s k) xs xs.length false A D V c d cs lo hi _ hst.out hff.out (by omega) (by omega) hO1 hRow (fun b hb => by have := hblk b hb; omega)).mono ?_
      rintro e w2 ⟨rfl, hO2, hA2⟩
      have hs2 := hA2.size
      replace b0 := (hA2.cell (by omega) (by omega) 0).trans b0
      replace b1 := (hA2.cell (by omega) (by omega) 1).trans b1
      replace b2 := (hA2.fz (by omega) (by omega) 0).trans b2
      replace b3 := (hA2.fz (by omega) (by omega) 1).trans b3
      replace q0 := (hA2.cell (by omega) (by omega) 0).trans q0
      replace q1 := (hA2.cell (by omega) (by omega) 1).trans q1
      replace q2 := (hA2.fz (by omega) (by omega) 0).trans q2
      replace q3 := (hA2.fz (by omega) (by omega) 1).trans q3
      have hA3 := hA1.trans hA2 (fun b _ hb => hb)
      rw [hfin.out] at hO2
      clear hO1 hA1 hA2 hRow
      have hW : Wrote w2 ((w2.setCell ⟨w.heap.size, 0, none⟩ (.slice A 4 c)).setCell ⟨w.heap.size, 1, none⟩ (.slice D 6 d)) w.heap.size 0 [.slice A 4 c, .slice D 6 d] := wrote_setRow w.heap.size [.slice A 4 c, .slice D 6 d] 0 w2 (fun j hj => by
        match j, hj with
        | 0, _ => exact ⟨_, b0⟩
        | 1, _ => exact ⟨_, b1⟩)
      have hO3 : OSt _ lo hi A (upto s (k + 1)).flash D (upto s (k + 1)).disk := hO2.keep fun b h1 h2 _ => hW.block b (by omega)
      have hA4 := hA3.trans (S' := (· = w.heap.size)) hW.agr (fun b hb e => by omega)
      have t0 := hW.new_ 0 _ rfl
      have t1 := hW.new_ 1 _ rfl
      have t2 := (hW.frozen ⟨w.heap.size, 0, none⟩).trans b2
      have t3 := (hW.frozen ⟨w.heap.size, 1, none⟩).trans b3
      have s0 := (hW.agr.cell (b := w.heap.size + 1) (by omega) (by omega) 0).trans q0
      have s1 := (hW.agr.cell (b := w.heap.size + 1) (by omega) (by omega) 1).trans q1
      have s2 := (hW.frozen ⟨w.heap.size + 1, 0, none⟩).trans q2
      have s3 := (hW.frozen ⟨w.heap.size + 1, 1, none⟩).trans q3
      have hss := hW.size
      have e1 : IntKind.i64.wrap ((k : Int) + 1 + 1) = (k : Int) + 1 + 1 := IntWalk.i64_in _ (by omega)
      clear hW
      go_wp2
      go_roundw
      (case rel => exact ⟨k + 1, by omega, by go_num, hO3, hA4, by omega, ⟨t0, t1, t2, t3⟩, ⟨u0, u1, s0, s1, s2, s3⟩⟩)
      (case measure => simp [intOf]; omega)
    · obtain rfl : k = 6 := by omega
      go_wp2
      refine bodyPost_ret (v := .agg #[.slice A 4 c, .slice D 6 d]) (by simp [results, Try.results111, go_sem, b0, b1, q0, q1]) rfl ⟨rfl, ?_, ?_⟩
      · rw [← upto_six]
        have hbb : Below w.heap.size wr ((wr.setCell ⟨w.heap.size + 1, 0, none⟩ (.slice A 4 c)).setCell ⟨w.heap.size + 1, 1, none⟩ (.slice D 6 d)) := by (repeat (first | (with_reducible exact Below.refl _ _) | (with_reducible assumption) | (refine Below.setCell ?_ (by first | omega | exact hB.size | exact hb.size | (have h := hB.size; simp; omega) | (have h := hb.size; simp; omega) | (simp; omega) | simp) _) | (refine Below.alloc ?_ (by first | omega | exact hB.size | exact hb.size | (have h := hB.size; simp; omega) | (have h := hb.size; simp; omega) | (simp; omega) | simp) _) | (refine Below.drew ?_)))
        exact hOk.keep fun y _ h2 _ => hbb.block y (by omega)
      · exact (hA.setCell (.inl (by show w.heap.size ≤ w.heap.size + 1; omega)) _).setCell (.inl (by show w.heap.size ≤ w.heap.size + 1; omega)) _
end Go.Proofs.Ytbekihiiildgmaa
namespace Go.Proofs.Ytbekihiiildgmaa
set_option linter.unusedVariables false
set_option linter.unusedSimpArgs false
open Go.RowKit Go.Maps
set_option maxHeartbeats 400000
theorem stepsOf_len {s : St} (h : stFine s) (e : Ev) : (stepsOf s e).length ≤ 8 := by
  have h1 := wr_len h.1.1 (stFine_pages h)
  unfold stepsOf
  split
  · have := h1 1 e.a e.b; omega
  · split
    · have := flush_len h e.a; omega
    · split
      · unfold fill
        split
        · simp
        · have := h1 2 e.a (s.disk.getD (e.a - 1).toNat 0); omega
      · simp
set_option maxHeartbeats 4000000 in
set_option maxRecDepth 100000 in
theorem spec_l21Do (s : St) (e : Ev) (A D : Option Addr) (c d lo hi : Nat) (w : World) (hs : stFine s) (hhi : hi ≤ w.heap.size) (hO : OSt w lo hi A s.flash D s.disk) :
    Calls Try.prog 62 #[.agg #[.slice A 4 c, .slice D 6 d], .agg #[.int .i64 e.kind, .int .i64 e.a, .int .i64 e.b, .int .i64 e.c, .bool e.torn]] w fun r w' =>
      r = .returned (.agg #[.slice A 4 c, .slice D 6 d]) ∧ OSt w' lo hi A (doEv s e).flash D (doEv s e).disk ∧ Agr (fun b => lo ≤ b ∧ b < hi) w w' := by
  obtain ⟨k, a, b, cc, t⟩ := e
  dsimp only
  have HS := Lib.hid hs
  have hfin : Hid (doEv s ⟨k, a, b, cc, t⟩ = if k = 4 then doEvery s else if cc < 0 then s else doTo s (stepsOf s ⟨k, a, b, cc, t⟩) cc t) := rfl
  obtain ⟨W, hW⟩ : ∃ W, W = ((w.alloc (.cells #[.slice A 4 c, .slice D 6 d] 26)).alloc (.cells #[.int .i64 k, .int .i64 a, .int .i64 b, .int .i64 cc, .bool t] 28)).alloc (.cells #[.slice none 0 0, .slice none 0 0] 26) := ⟨_, rfl⟩
  have hOW : OSt W lo hi A s.flash D s.disk := by rw [hW]; exact ((hO.alloc' _).alloc' _).alloc' _
  have hAW : Agr (fun y => lo ≤ y ∧ y < hi) w W := by rw [hW]; exact (((Agr.refl _ _).alloc _).alloc _).alloc _
  have b0 : W.cell? ⟨w.heap.size, 0, none⟩ = some (.slice A 4 c) := by rw [hW]; exact cell3 (by simp)
  have b1 : W.cell? ⟨w.heap.size, 1, none⟩ = some (.slice D 6 d) := by rw [hW]; exact cell3 (by simp)
  have hM := ((Row.new (w.alloc (.cells #[.slice A 4 c, .slice D 6 d] 26)) #[.int .i64 k, .int .i64 a, .int .i64 b, .int .i64 cc, .bool t] 28).alloc (.cells #[.slice none 0 0, .slice none 0 0] 26))
  rw [← hW] at hM
  simp only [World.size_alloc] at hM
  have c0 := (hM.at0 (j := 0) rfl).1
  have c1 := (hM.at0 (j := 1) rfl).1
  have c2 := (hM.at0 (j := 2) rfl).1
  have c3 := (hM.at0 (j := 3) rfl).1
  have c4 := (hM.at0 (j := 4) rfl).1
  have hT := top3 w (.cells #[.slice A 4 c, .slice D 6 d] 26) (.cells #[.int .i64 k, .int .i64 a, .int .i64 b, .int .i64 cc, .bool t] 28) #[.slice none 0 0, .slice none 0 0] 26
  rw [← hW] at hT
  have q0 := (hT.at0 (j := 0) rfl).1
  have q1 := (hT.at0 (j := 1) rfl).1
  have q2 := (hT.at0 (j := 0) rfl).2
  have q3 := (hT.at0 (j := 1) rfl).2
  have hWs : W.heap.size = w.heap.size + 1 + 1 + 1 := by rw [hW]; simp
  have HW := Lib.hid hW
  clear hW hs hT hM
  by_cases h4 : k = 4
  · subst h4
    have h3 : Hid (doEv s ⟨4, a, b, cc, t⟩ = doEvery s) := by rw [Hid, hfin.out, if_pos rfl]
    go_enter Try.func62, Try.ntmps62
    go_wp2_with fail
    rw [← HW.out]
    refine (spec_l21All s A D c d lo hi _ HS.out (by omega) hOW).mono ?_
    rintro e w1 ⟨rfl, hO1, hA1⟩
    replace q0 := (hA1.cell (by omega) (by omega) 0).trans q0
    replace q1 := (hA1.cell (by omega) (by omega) 1).trans q1
    replace q2 := (hA1.fz (by omega) (by omega) 0).trans q2
    replace q3 := (hA1.fz (by omega) (by omega) 1).trans q3
    have hA2 := hAW.trans hA1 (fun b _ hb => hb)
    have hs1 := hA1.size
    clear hA1 hOW hAW
    go_wp2
    refine bodyPost_ret (v := .agg #[.slice A 4 c, .slice D 6 d]) (by simp [results, Try.results62, go_sem, q0, q1]) rfl ⟨rfl, ?_, ?_⟩
    · rw [h3.out]
      refine hO1.keep fun y _ h2 _ => ?_
      rw [Below.heap_setCell _ _ _ _ (by show y ≠ w.heap.size + 1 + 1; omega), Below.heap_setCell _ _ _ _ (by show y ≠ w.heap.size + 1 + 1; omega)]
    · exact (hA2.setCell (.inl (by show w.heap.size ≤ w.heap.size + 1 + 1; omega)) _).setCell (.inl (by show w.heap.size ≤ w.heap.size + 1 + 1; omega)) _
  · have h4' : (k == 4) = false := by simpa using h4
    by_cases hc : cc < 0
    · have h3 : Hid (doEv s ⟨k, a, b, cc, t⟩ = s) := by rw [Hid, hfin.out, if_neg h4, if_pos hc]
      go_enter Try.func62, Try.ntmps62
      go_wp2
      refine bodyPost_ret (v := .agg #[.slice A 4 c, .slice D 6 d]) (by simp [results, Try.results62, go_sem]) rfl ⟨rfl, ?_, ?_⟩
      · rw [h3.out]
        exact ((hO.alloc' _).alloc' _).alloc' _
      · exact (((Agr.refl _ _).alloc _).alloc _).alloc _
    · have h3 : Hid (doEv s ⟨k, a, b, cc, t⟩ = doTo s (stepsOf s ⟨k, a, b, cc, t⟩) cc t) := by rw [Hid, hfin.out, if_neg h4, if_neg hc]
      have hW1 : w.heap.size < W.drew.heap.size := by show w.heap.size < W.heap.size; omega
      have hW2 : w.heap.size + 1 < W.drew.heap.size := by show w.heap.size + 1 < W.heap.size; omega
      have hW3 : w.heap.size + 1 + 1 < W.drew.heap.size := by show w.heap.size + 1 + 1 < W.heap.size; omega
      have hff := Lib.hid (stepsOf_fine HS.out ⟨k, a, b, cc, t⟩)
      have hfl := stepsOf_len HS.out ⟨k, a, b, cc, t⟩
      have hO0 := hOW.drew
      have hsz : w.heap.size + 1 + 1 < W.heap.size := by omega
      have h5 := Lib.hid (spec_l21Steps s ⟨k, a, b, cc, t⟩ A D c d W.drew HS.out.1.1 (stFine_pages HS.out) (most_small HS.out.1) HS.out.2.1 hO0.ofl.fl hO0.disk)
      generalize stepsOf s ⟨k, a, b, cc, t⟩ = xs at *
      go_enter Try.func62, Try.ntmps62
      go_wp2_with fail
      rw [← HW.out]
      have db0 : W.drew.cell? ⟨w.heap.size, 0, none⟩ = some (.slice A 4 c) := b0
      have db1 : W.drew.cell? ⟨w.heap.size, 1, none⟩ = some (.slice D 6 d) := b1
      have dc0 : W.drew.cell? ⟨w.heap.size + 1, 0, none⟩ = some (.int .i64 k) := c0
      have dc1 : W.drew.cell? ⟨w.heap.size + 1, 1, none⟩ = some (.int .i64 a) := c1
      have dc2 : W.drew.cell? ⟨w.heap.size + 1, 2, none⟩ = some (.int .i64 b) := c2
      have dc3 : W.drew.cell? ⟨w.heap.size + 1, 3, none⟩ = some (.int .i64 cc) := c3
      have dc4 : W.drew.cell? ⟨w.heap.size + 1, 4, none⟩ = some (.bool t) := c4
      have dq0 : W.drew.cell? ⟨w.heap.size + 1 + 1, 0, none⟩ = some (.slice none 0 0) := q0
      have dq1 : W.drew.cell? ⟨w.heap.size + 1 + 1, 1, none⟩ = some (.slice none 0 0) := q1
      have dq2 : W.drew.frozen? ⟨w.heap.size + 1 + 1, 0, none⟩ = false := q2
      have dq3 : W.drew.frozen? ⟨w.heap.size + 1 + 1, 1, none⟩ = false := q3
      have hAd : Agr (fun y => lo ≤ y ∧ y < hi) w W.drew := hAW.drew
      have hid : hi ≤ W.drew.heap.size := by show hi ≤ W.heap.size; omega
      have hWd : W.drew.heap.size = w.heap.size + 1 + 1 + 1 := hWs
      have n1 : w.heap.size + 1 + 1 ≠ w.heap.size := by omega
      have n2 : w.heap.size + 1 + 1 ≠ w.heap.size + 1 := by omega
      go_region_held3 (fun w' => w'.cell? ⟨w.heap.size, 0, none⟩ = some (.slice A 4 c) ∧ w'.cell? ⟨w.heap.size, 1, none⟩ = some (.slice D 6 d) ∧ w'.cell? ⟨w.heap.size + 1, 0, none⟩ = some (.int .i64 k) ∧ w'.cell? ⟨w.heap.size + 1, 1, none⟩ = some (.int .i64 a) ∧ w'.cell? ⟨w.heap.size + 1, 2, none⟩ = some (.int .i64 b) ∧ w'.cell? ⟨w.heap.size + 1, 3, none⟩ = some (.int .i64 cc) ∧ w'.cell? ⟨w.heap.size + 1, 4, none⟩ = some (.bool t))
        (first | go_keep | trivial)
        (first
          | (go_at_call 74; with_reducible refine h5.out.mono ?_; rintro e w1 ⟨v, rfl, hOS, hb⟩; obtain ⟨V, cs, rfl, hcs, hRow, hblk⟩ := hOS.shape; have hO1 := hO0.below hb (Nat.le_refl _); have hs1 := hb.size; obtain ⟨hc1, hf1⟩ := bcell hb; have ib0 := (hc1 _ 0 hW1).trans db0; have ib1 := (hc1 _ 1 hW1).trans db1; have ic0 := (hc1 _ 0 hW2).trans dc0; have ic1 := (hc1 _ 1 hW2).trans dc1; have ic2 := (hc1 _ 2 hW2).trans dc2; have ic3 := (hc1 _ 3 hW2).trans dc3; have ic4 := (hc1 _ 4 hW2).trans dc4; have iq0 := (hc1 _ 0 hW3).trans dq0; have iq1 := (hc1 _ 1 hW3).trans dq1; have iq2 := (hf1 _ 0 hW3).trans dq2; have iq3 := (hf1 _ 1 hW3).trans dq3; have hA1 := hAd.trans (S' := fun _ => False) (Agr.of_below hb) (fun b hb e => absurd e id); clear hb hc1 hf1)
          | (go_at_call 83; with_reducible refine (spec_l12To s xs cc t A D V c d cs lo hi _ HS.out hff.out (by omega) (by omega) hO1 hRow (fun b hb => by have := hblk b hb; omega)).mono ?_; rintro e w2 ⟨rfl, hO2, hA2⟩; have kb0 := (hA2.cell (b := w.heap.size) (by omega) (by omega) 0).trans ib0; have kb1 := (hA2.cell (b := w.heap.size) (by omega) (by omega) 1).trans ib1; have kc0 := (hA2.cell (b := w.heap.size + 1) (by omega) (by omega) 0).trans ic0; have kc1 := (hA2.cell (b := w.heap.size + 1) (by omega) (by omega) 1).trans ic1; have kc2 := (hA2.cell (b := w.heap.size + 1) (by omega) (by omega) 2).trans ic2; have kc3 := (hA2.cell (b := w.heap.size + 1) (by omega) (by omega) 3).trans ic3; have kc4 := (hA2.cell (b := w.heap.size + 1) (by omega) (by omega) 4).trans ic4; have kq0 := (hA2.cell (b := w.heap.size + 1 + 1) (by omega) (by omega) 0).trans iq0; have kq1 := (hA2.cell (b := w.heap.size + 1 + 1) (by omega) (by omega) 1).trans iq1; have kq2 := (hA2.fz (b := w.heap.size + 1 + 1) (by omega) (by omega) 0).trans iq2; have kq3 := (hA2.fz (b := w.heap.size + 1 + 1) (by omega) (by omega) 1).trans iq3))
      have hA3 := hA1.trans hA2 (fun b _ hb => hb)
      have hs2 := hA2.size
      clear hA1 hA2 hAd hAW
      go_wp2
      refine bodyPost_ret (v := .agg #[.slice A 4 c, .slice D 6 d]) (by simp [results, Try.results62, go_sem, kq0, kq1]) rfl ⟨rfl, ?_, ?_⟩
      · rw [h3.out]
        refine hO2.keep fun y _ h2 _ => ?_
        rw [Below.heap_setCell _ _ _ _ (by show y ≠ w.heap.size + 1 + 1; omega), Below.heap_setCell _ _ _ _ (by show y ≠ w.heap.size + 1 + 1; omega)]
      · exact (hA3.setCell (.inl (by show w.heap.size ≤ w.heap.size + 1 + 1; omega)) _).setCell (.inl (by show w.heap.size ≤ w.heap.size + 1 + 1; omega)) _
end Go.Proofs.Ytbekihiiildgmaa
