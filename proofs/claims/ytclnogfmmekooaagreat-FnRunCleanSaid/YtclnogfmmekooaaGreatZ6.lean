/- What the laws' walks share: words, plain laws, and the walks of functions, part 6. -/
import Derived.RangeFuncNested
import Derived.RangeFuncBound
import Derived.RangeFuncCalls
import Derived.RangeFuncLeaves
import Derived.Shelf.Abstract
import Derived.Shelf.RegionOpen
import Derived.OwnWalkIn
import Derived.TacticsInMore
import Derived.LoopNIn
import Derived.LoopIn
import Derived.Deep.RegionHeld3
import Derived.WideShapes
import Derived.OrdersIn
import Derived.Test.YtclnogfmmekooaaGreatZ5
set_option linter.unusedVariables false
set_option linter.unusedSimpArgs false
set_option maxHeartbeats 16000000
set_option maxRecDepth 100000
namespace Go.Proofs.YtclnogfmmekooaaGreat
section
open Go.RowKit Go.Maps
def zar (e : Ev) : Prop := (1 ≤ e.kind ∧ e.kind ≤ 4) ∧ (1 ≤ e.a ∧ e.a ≤ 6) ∧ (0 ≤ e.b ∧ e.b ≤ 9) ∧ (0 ≤ e.c ∧ e.c ≤ 9)
theorem Jb (B R m : Nat) (w : World) (hm : m ≤ 900000) (hR : Rd w B R m) :
 Calls Tryz.prog 23 #[.pointer (some ⟨R, 0, none⟩)] w fun e w' => ∃ x : Ev, e = .returned (.agg #[.int .i64 x.kind, .int .i64 x.a, .int .i64 x.b, .int .i64 x.c, .bool x.torn]) ∧ zar x ∧ Rd w' B R (m + 7) ∧ Agr (· = R) w w' := by
 have hRl := hR.lt
 have hq := Row.new w #[.int .i64 0, .int .i64 0, .int .i64 0, .int .i64 0, .bool false] 33
 obtain ⟨q0, f0⟩ := hq.at0 (j := 0) rfl
 obtain ⟨q1, f1⟩ := hq.at0 (j := 1) rfl
 obtain ⟨q2, f2⟩ := hq.at0 (j := 2) rfl
 obtain ⟨q3, f3⟩ := hq.at0 (j := 3) rfl
 obtain ⟨q4, f4⟩ := hq.at0 (j := 4) rfl
 have hR0 := hR.alloc (.cells #[.int .i64 0, .int .i64 0, .int .i64 0, .int .i64 0, .bool false] 33)
 have hA0 : Agr (· = R) w (w.alloc (.cells #[.int .i64 0, .int .i64 0, .int .i64 0, .int .i64 0, .bool false] 33)) := (Agr.refl _ _).alloc _
 have hs0 : w.heap.size < (w.alloc (.cells #[.int .i64 0, .int .i64 0, .int .i64 0, .int .i64 0, .bool false] 33)).heap.size := by simp
 have hne : ¬ w.heap.size = R := by omega
 clear hq
 go_enter Tryz.func23, Tryz.ntmps23
 go_wp2_with fail
 refine (zq 6 6 B R (m + 0) _ rfl (by omega) (by omega) (by omega) hR0).mono ?_
 rintro e w1 ⟨k1, rfl, hk1, hR1, hB1⟩
 have h5 := fv (hB1.cell hs0 hne) (hB1.fz hs0 hne) ⟨q0, f0, q1, f1, q2, f2, q3, f3, q4, f4⟩
 clear q0 f0 q1 f1 q2 f2 q3 f3 q4 f4
 obtain ⟨q0, f0, q1, f1, q2, f2, q3, f3, q4, f4⟩ := h5
 have hs1 : w.heap.size < w1.heap.size := Nat.lt_of_lt_of_le hs0 hB1.size
 have hA1 := hA0.trans hB1 (fun _ _ h => h)
 have e1 : IntKind.i64.wrap (1 + (k1 : Int)) = 1 + k1 := IntWalk.i64_in _ (by omega)
 clear hR0 hA0 hs0 hB1
 go_wp2_with fail
 refine (zq 10 10 B R (m + 1) _ rfl (by omega) (by omega) (by omega) hR1).mono ?_
 rintro e w2 ⟨k2, rfl, hk2, hR2, hB2⟩
 have h5 := fv (hB2.cell hs1 hne) (hB2.fz hs1 hne) ⟨q0, f0, q1, f1, q2, f2, q3, f3, q4, f4⟩
 clear q0 f0 q1 f1 q2 f2 q3 f3 q4 f4
 obtain ⟨q0, f0, q1, f1, q2, f2, q3, f3, q4, f4⟩ := h5
 have hs2 : w.heap.size < w2.heap.size := Nat.lt_of_lt_of_le hs1 hB2.size
 have hA2 := hA1.trans hB2 (fun _ _ h => h)
 clear hR1 hA1 hs1 hB2
 obtain ⟨n4, hn4⟩ : ∃ n, n = w2.heap.size := ⟨_, rfl⟩
 have hx := Row.new w2 #[.int .i64 1, .int .i64 (1 + k1), .int .i64 k2, .int .i64 9, .bool false] 33
 obtain ⟨x0, y0⟩ := hx.at0 (j := 0) rfl
 obtain ⟨x1, y1⟩ := hx.at0 (j := 1) rfl
 obtain ⟨x2, y2⟩ := hx.at0 (j := 2) rfl
 obtain ⟨x3, y3⟩ := hx.at0 (j := 3) rfl
 obtain ⟨x4, y4⟩ := hx.at0 (j := 4) rfl
 have hq2 : ∀ (i : Nat) u, w2.cell? ⟨w.heap.size, i, none⟩ = u -> (w2.alloc (.cells #[.int .i64 1, .int .i64 (1 + k1), .int .i64 k2, .int .i64 9, .bool false] 33)).cell? ⟨w.heap.size, i, none⟩ = u := fun i u h => (((Below.refl w2.heap.size w2).alloc nl _).cell (p := ⟨w.heap.size, i, none⟩) hs2).trans h
 have hf2 : ∀ (i : Nat) u, w2.frozen? ⟨w.heap.size, i, none⟩ = u -> (w2.alloc (.cells #[.int .i64 1, .int .i64 (1 + k1), .int .i64 k2, .int .i64 9, .bool false] 33)).frozen? ⟨w.heap.size, i, none⟩ = u := fun i u h => (((Below.refl w2.heap.size w2).alloc nl _).frozen (p := ⟨w.heap.size, i, none⟩) hs2).trans h
 replace q0 := hq2 0 _ q0
 replace f0 := hf2 0 _ f0
 replace q1 := hq2 1 _ q1
 replace f1 := hf2 1 _ f1
 replace q2 := hq2 2 _ q2
 replace f2 := hf2 2 _ f2
 replace q3 := hq2 3 _ q3
 replace f3 := hf2 3 _ f3
 replace q4 := hq2 4 _ q4
 replace f4 := hf2 4 _ f4
 have hs4' : w2.heap.size < (w2.alloc (.cells #[.int .i64 1, .int .i64 (1 + k1), .int .i64 k2, .int .i64 9, .bool false] 33)).heap.size := by simp
 have hs4'' : w.heap.size < (w2.alloc (.cells #[.int .i64 1, .int .i64 (1 + k1), .int .i64 k2, .int .i64 9, .bool false] 33)).heap.size := by simp; omega
 have hne4 : ¬ w2.heap.size = R := by omega
 have hAa : Agr (· = R) w (w2.alloc (.cells #[.int .i64 1, .int .i64 (1 + k1), .int .i64 k2, .int .i64 9, .bool false] 33)) := hA2.alloc _
 clear hx hq2 hf2
 go_wp2_with fail
 refine (zq 12 12 B R (m + 2) _ rfl (by omega) (by omega) (by omega) (hR2.alloc _)).mono ?_
 rintro e w3 ⟨k3, rfl, hk3, hR3, hB3⟩
 have h5 := fv (hB3.cell hs4'' hne) (hB3.fz hs4'' hne) ⟨q0, f0, q1, f1, q2, f2, q3, f3, q4, f4⟩
 clear q0 f0 q1 f1 q2 f2 q3 f3 q4 f4
 obtain ⟨q0, f0, q1, f1, q2, f2, q3, f3, q4, f4⟩ := h5
 have h5 := fv (hB3.cell hs4' hne4) (hB3.fz hs4' hne4) ⟨x0, y0, x1, y1, x2, y2, x3, y3, x4, y4⟩
 clear x0 y0 x1 y1 x2 y2 x3 y3 x4 y4
 obtain ⟨x0, y0, x1, y1, x2, y2, x3, y3, x4, y4⟩ := h5
 have hs3 : w2.heap.size < w3.heap.size := Nat.lt_of_lt_of_le hs4' hB3.size
 have hA3 := hAa.trans hB3 (fun _ _ h => h)
 have hs6 : w.heap.size < n4 := by omega
 rw [← hn4] at *
 have hs3' : w.heap.size < w3.heap.size := by omega
 clear hAa hB3 hA2 hR2 hs4' hs4'' hn4
 by_cases h0 : k3 < 3
 . have h01 : k3 = 0 ∨ k3 = 1 ∨ k3 = 2 := by omega
   clear h0
   rcases h01 with rfl | rfl | rfl
   . clear hk3
     go_wp2_with fail
     have hW := z8 x0 (.int .i64 2)
     have hRs : Rd (w3.setCell ⟨n4, 0, none⟩ (.int .i64 2)) B R (m + 3) := hR3.agr hW.agr (by omega) (fun b hb e => by have := hR3.le; omega)
     have hAs : Agr (· = R) w (w3.setCell ⟨n4, 0, none⟩ (.int .i64 2)) := hA3.setCell (.inl (by show w.heap.size ≤ n4; omega)) _
     have x0n : (w3.setCell ⟨n4, 0, none⟩ (.int .i64 2)).cell? ⟨n4, 0, none⟩ = some (.int .i64 2) := hW.new_ 0 _ rfl
     have h5 := fv (hW.agr.cell (b := w.heap.size) (by omega) (by omega)) (fun j => hW.frozen ⟨w.heap.size, j, none⟩) ⟨q0, f0, q1, f1, q2, f2, q3, f3, q4, f4⟩
     clear q0 f0 q1 f1 q2 f2 q3 f3 q4 f4
     obtain ⟨q0, f0, q1, f1, q2, f2, q3, f3, q4, f4⟩ := h5
     have h5 := fu (fun j => hW.frozen ⟨n4, j, none⟩) ⟨y0, y1, y2, y3, y4⟩
     clear y0 y1 y2 y3 y4
     obtain ⟨y0, y1, y2, y3, y4⟩ := h5
     replace x1 := (hW.old_ 1 (by simp)).trans x1
     replace x2 := (hW.old_ 2 (by simp)).trans x2
     replace x3 := (hW.old_ 3 (by simp)).trans x3
     replace x4 := (hW.old_ 4 (by simp)).trans x4
     replace x0 := x0n
     have hsa : n4 < (w3.setCell ⟨n4, 0, none⟩ (.int .i64 2)).heap.size := by simpa using hs3
     have hsb : w.heap.size < (w3.setCell ⟨n4, 0, none⟩ (.int .i64 2)).heap.size := by simpa using hs3'
     clear hW x0n hR3 hA3
     refine (zq 4 4 B R (m + 3) _ rfl (by omega) (by omega) (by omega) hRs).mono ?_
     rintro e w5 ⟨k5, rfl, hk5, hR5, hB5⟩
     have h5 := fv (hB5.cell hsb hne) (hB5.fz hsb hne) ⟨q0, f0, q1, f1, q2, f2, q3, f3, q4, f4⟩
     clear q0 f0 q1 f1 q2 f2 q3 f3 q4 f4
     obtain ⟨q0, f0, q1, f1, q2, f2, q3, f3, q4, f4⟩ := h5
     have h5 := fv (hB5.cell hsa hne4) (hB5.fz hsa hne4) ⟨x0, y0, x1, y1, x2, y2, x3, y3, x4, y4⟩
     clear x0 y0 x1 y1 x2 y2 x3 y3 x4 y4
     obtain ⟨x0, y0, x1, y1, x2, y2, x3, y3, x4, y4⟩ := h5
     have hA5 := hAs.trans hB5 (fun _ _ h => h)
     have hs5 : n4 < w5.heap.size := Nat.lt_of_lt_of_le hsa hB5.size
     have hs5' : w.heap.size < w5.heap.size := by omega
     clear hB5 hAs hRs
     by_cases h5 : k5 = 0
     . have t5 : ((k5 : Int) == 0) = true := by subst h5; rfl
       clear h5
       go_wp2_with fail
       refine (zq 5 5 B R (m + 4) _ rfl (by omega) (by omega) (by omega) hR5).mono ?_
       rintro e w6 ⟨k6, rfl, hk6, hR6, hB6⟩
       have h5 := fv (hB6.cell hs5' hne) (hB6.fz hs5' hne) ⟨q0, f0, q1, f1, q2, f2, q3, f3, q4, f4⟩
       clear q0 f0 q1 f1 q2 f2 q3 f3 q4 f4
       obtain ⟨q0, f0, q1, f1, q2, f2, q3, f3, q4, f4⟩ := h5
       have h5 := fv (hB6.cell hs5 hne4) (hB6.fz hs5 hne4) ⟨x0, y0, x1, y1, x2, y2, x3, y3, x4, y4⟩
       clear x0 y0 x1 y1 x2 y2 x3 y3 x4 y4
       obtain ⟨x0, y0, x1, y1, x2, y2, x3, y3, x4, y4⟩ := h5
       have hA6 := hA5.trans hB6 (fun _ _ h => h)
       have hs6a : n4 < w6.heap.size := Nat.lt_of_lt_of_le hs5 hB6.size
       have hs6b : w.heap.size < w6.heap.size := by omega
       go_wp2_with fail
       have hW := z8 x3 (.int .i64 k6)
       have hR6s : Rd (w6.setCell ⟨n4, 3, none⟩ (.int .i64 k6)) B R (m + 5) := hR6.agr hW.agr (by omega) (fun b hb e => by have := hR6.le; omega)
       have hA6s : Agr (· = R) w (w6.setCell ⟨n4, 3, none⟩ (.int .i64 k6)) := hA6.setCell (.inl (by show w.heap.size ≤ n4; omega)) _
       have x3n : (w6.setCell ⟨n4, 3, none⟩ (.int .i64 k6)).cell? ⟨n4, 3, none⟩ = some (.int .i64 k6) := hW.new_ 0 _ rfl
       have h5 := fv (hW.agr.cell (b := w.heap.size) (by omega) (by omega)) (fun j => hW.frozen ⟨w.heap.size, j, none⟩) ⟨q0, f0, q1, f1, q2, f2, q3, f3, q4, f4⟩
       clear q0 f0 q1 f1 q2 f2 q3 f3 q4 f4
       obtain ⟨q0, f0, q1, f1, q2, f2, q3, f3, q4, f4⟩ := h5
       have h5 := fu (fun j => hW.frozen ⟨n4, j, none⟩) ⟨y0, y1, y2, y3, y4⟩
       clear y0 y1 y2 y3 y4
       obtain ⟨y0, y1, y2, y3, y4⟩ := h5
       replace x0 := (hW.old_ 0 (by simp)).trans x0
       replace x1 := (hW.old_ 1 (by simp)).trans x1
       replace x2 := (hW.old_ 2 (by simp)).trans x2
       replace x4 := (hW.old_ 4 (by simp)).trans x4
       replace x3 := x3n
       have hs7 : n4 < (w6.setCell ⟨n4, 3, none⟩ (.int .i64 k6)).heap.size := by simpa using hs6a
       have hs7' : w.heap.size < (w6.setCell ⟨n4, 3, none⟩ (.int .i64 k6)).heap.size := by simpa using hs6b
       clear hW x3n hB6 hR6 hA6 hA5 hR5
       refine (zq 3 3 B R (m + 5) _ rfl (by omega) (by omega) (by omega) hR6s).mono ?_
       rintro e w7 ⟨k7, rfl, hk7, hR7, hB7⟩
       have h5 := fv (hB7.cell hs7' hne) (hB7.fz hs7' hne) ⟨q0, f0, q1, f1, q2, f2, q3, f3, q4, f4⟩
       clear q0 f0 q1 f1 q2 f2 q3 f3 q4 f4
       obtain ⟨q0, f0, q1, f1, q2, f2, q3, f3, q4, f4⟩ := h5
       have h5 := fv (hB7.cell hs7 hne4) (hB7.fz hs7 hne4) ⟨x0, y0, x1, y1, x2, y2, x3, y3, x4, y4⟩
       clear x0 y0 x1 y1 x2 y2 x3 y3 x4 y4
       obtain ⟨x0, y0, x1, y1, x2, y2, x3, y3, x4, y4⟩ := h5
       have hA7 := hA6s.trans hB7 (fun _ _ h => h)
       have hs7a : n4 < w7.heap.size := Nat.lt_of_lt_of_le hs7 hB7.size
       have hs7b : w.heap.size < w7.heap.size := by omega
       clear hB7 hR6s hA6s hs7 hs7'
       go_wp2
       refine bodyPost_ret (v := .agg #[.int .i64 (2), .int .i64 (1 + (k1 : Int)), .int .i64 ((k2 : Int)), .int .i64 ((k6 : Int)), .bool (decide ((0 : Int) < k7))]) (by simp [results, Tryz.results23, go_sem, q0, q1, q2, q3, q4]) rfl ⟨⟨2, 1 + (k1 : Int), (k2 : Int), (k6 : Int), decide ((0 : Int) < k7)⟩, rfl, ⟨⟨by dsimp only; omega, by dsimp only; omega⟩, ⟨by dsimp only; omega, by dsimp only; omega⟩, ⟨by dsimp only; omega, by dsimp only; omega⟩, ⟨by dsimp only; omega, by dsimp only; omega⟩⟩, ?_, ?_⟩
       . refine (Rd.high (L := w.heap.size) hR7 ?_ hRl).mono (by omega)
         repeat (with_reducible refine Agr.setCell ?_ (.inr (by first | exact Nat.le_refl _ | (show w.heap.size ≤ n4; omega))) _)
         with_reducible exact Agr.refl _ _
       . repeat (with_reducible refine Agr.setCell ?_ (.inl (by first | exact Nat.le_refl _ | (show w.heap.size ≤ n4; omega))) _)
         with_reducible exact hA7
     . have t5 : ((k5 : Int) == 0) = false := by rw [beq_eq_false_iff_ne]; omega
       clear h5
       go_wp2
       refine bodyPost_ret (v := .agg #[.int .i64 (2), .int .i64 (1 + (k1 : Int)), .int .i64 ((k2 : Int)), .int .i64 (9), .bool (false)]) (by simp [results, Tryz.results23, go_sem, q0, q1, q2, q3, q4]) rfl ⟨⟨2, 1 + (k1 : Int), (k2 : Int), 9, false⟩, rfl, ⟨⟨by dsimp only; omega, by dsimp only; omega⟩, ⟨by dsimp only; omega, by dsimp only; omega⟩, ⟨by dsimp only; omega, by dsimp only; omega⟩, ⟨by dsimp only; omega, by dsimp only; omega⟩⟩, ?_, ?_⟩
       . refine (Rd.high (L := w.heap.size) hR5 ?_ hRl).mono (by omega)
         repeat (with_reducible refine Agr.setCell ?_ (.inr (by first | exact Nat.le_refl _ | (show w.heap.size ≤ n4; omega))) _)
         with_reducible exact Agr.refl _ _
       . repeat (with_reducible refine Agr.setCell ?_ (.inl (by first | exact Nat.le_refl _ | (show w.heap.size ≤ n4; omega))) _)
         with_reducible exact hA5

   . clear hk3
     go_wp2_with fail
     have hW := z8 x0 (.int .i64 2)
     have hRs : Rd (w3.setCell ⟨n4, 0, none⟩ (.int .i64 2)) B R (m + 3) := hR3.agr hW.agr (by omega) (fun b hb e => by have := hR3.le; omega)
     have hAs : Agr (· = R) w (w3.setCell ⟨n4, 0, none⟩ (.int .i64 2)) := hA3.setCell (.inl (by show w.heap.size ≤ n4; omega)) _
     have x0n : (w3.setCell ⟨n4, 0, none⟩ (.int .i64 2)).cell? ⟨n4, 0, none⟩ = some (.int .i64 2) := hW.new_ 0 _ rfl
     have h5 := fv (hW.agr.cell (b := w.heap.size) (by omega) (by omega)) (fun j => hW.frozen ⟨w.heap.size, j, none⟩) ⟨q0, f0, q1, f1, q2, f2, q3, f3, q4, f4⟩
     clear q0 f0 q1 f1 q2 f2 q3 f3 q4 f4
     obtain ⟨q0, f0, q1, f1, q2, f2, q3, f3, q4, f4⟩ := h5
     have h5 := fu (fun j => hW.frozen ⟨n4, j, none⟩) ⟨y0, y1, y2, y3, y4⟩
     clear y0 y1 y2 y3 y4
     obtain ⟨y0, y1, y2, y3, y4⟩ := h5
     replace x1 := (hW.old_ 1 (by simp)).trans x1
     replace x2 := (hW.old_ 2 (by simp)).trans x2
     replace x3 := (hW.old_ 3 (by simp)).trans x3
     replace x4 := (hW.old_ 4 (by simp)).trans x4
     replace x0 := x0n
     have hsa : n4 < (w3.setCell ⟨n4, 0, none⟩ (.int .i64 2)).heap.size := by simpa using hs3
     have hsb : w.heap.size < (w3.setCell ⟨n4, 0, none⟩ (.int .i64 2)).heap.size := by simpa using hs3'
     clear hW x0n hR3 hA3
     refine (zq 4 4 B R (m + 3) _ rfl (by omega) (by omega) (by omega) hRs).mono ?_
     rintro e w5 ⟨k5, rfl, hk5, hR5, hB5⟩
     have h5 := fv (hB5.cell hsb hne) (hB5.fz hsb hne) ⟨q0, f0, q1, f1, q2, f2, q3, f3, q4, f4⟩
     clear q0 f0 q1 f1 q2 f2 q3 f3 q4 f4
     obtain ⟨q0, f0, q1, f1, q2, f2, q3, f3, q4, f4⟩ := h5
     have h5 := fv (hB5.cell hsa hne4) (hB5.fz hsa hne4) ⟨x0, y0, x1, y1, x2, y2, x3, y3, x4, y4⟩
     clear x0 y0 x1 y1 x2 y2 x3 y3 x4 y4
     obtain ⟨x0, y0, x1, y1, x2, y2, x3, y3, x4, y4⟩ := h5
     have hA5 := hAs.trans hB5 (fun _ _ h => h)
     have hs5 : n4 < w5.heap.size := Nat.lt_of_lt_of_le hsa hB5.size
     have hs5' : w.heap.size < w5.heap.size := by omega
     clear hB5 hAs hRs
     by_cases h5 : k5 = 0
     . have t5 : ((k5 : Int) == 0) = true := by subst h5; rfl
       clear h5
       go_wp2_with fail
       refine (zq 5 5 B R (m + 4) _ rfl (by omega) (by omega) (by omega) hR5).mono ?_
       rintro e w6 ⟨k6, rfl, hk6, hR6, hB6⟩
       have h5 := fv (hB6.cell hs5' hne) (hB6.fz hs5' hne) ⟨q0, f0, q1, f1, q2, f2, q3, f3, q4, f4⟩
       clear q0 f0 q1 f1 q2 f2 q3 f3 q4 f4
       obtain ⟨q0, f0, q1, f1, q2, f2, q3, f3, q4, f4⟩ := h5
       have h5 := fv (hB6.cell hs5 hne4) (hB6.fz hs5 hne4) ⟨x0, y0, x1, y1, x2, y2, x3, y3, x4, y4⟩
       clear x0 y0 x1 y1 x2 y2 x3 y3 x4 y4
       obtain ⟨x0, y0, x1, y1, x2, y2, x3, y3, x4, y4⟩ := h5
       have hA6 := hA5.trans hB6 (fun _ _ h => h)
       have hs6a : n4 < w6.heap.size := Nat.lt_of_lt_of_le hs5 hB6.size
       have hs6b : w.heap.size < w6.heap.size := by omega
       go_wp2_with fail
       have hW := z8 x3 (.int .i64 k6)
       have hR6s : Rd (w6.setCell ⟨n4, 3, none⟩ (.int .i64 k6)) B R (m + 5) := hR6.agr hW.agr (by omega) (fun b hb e => by have := hR6.le; omega)
       have hA6s : Agr (· = R) w (w6.setCell ⟨n4, 3, none⟩ (.int .i64 k6)) := hA6.setCell (.inl (by show w.heap.size ≤ n4; omega)) _
       have x3n : (w6.setCell ⟨n4, 3, none⟩ (.int .i64 k6)).cell? ⟨n4, 3, none⟩ = some (.int .i64 k6) := hW.new_ 0 _ rfl
       have h5 := fv (hW.agr.cell (b := w.heap.size) (by omega) (by omega)) (fun j => hW.frozen ⟨w.heap.size, j, none⟩) ⟨q0, f0, q1, f1, q2, f2, q3, f3, q4, f4⟩
       clear q0 f0 q1 f1 q2 f2 q3 f3 q4 f4
       obtain ⟨q0, f0, q1, f1, q2, f2, q3, f3, q4, f4⟩ := h5
       have h5 := fu (fun j => hW.frozen ⟨n4, j, none⟩) ⟨y0, y1, y2, y3, y4⟩
       clear y0 y1 y2 y3 y4
       obtain ⟨y0, y1, y2, y3, y4⟩ := h5
       replace x0 := (hW.old_ 0 (by simp)).trans x0
       replace x1 := (hW.old_ 1 (by simp)).trans x1
       replace x2 := (hW.old_ 2 (by simp)).trans x2
       replace x4 := (hW.old_ 4 (by simp)).trans x4
       replace x3 := x3n
       have hs7 : n4 < (w6.setCell ⟨n4, 3, none⟩ (.int .i64 k6)).heap.size := by simpa using hs6a
       have hs7' : w.heap.size < (w6.setCell ⟨n4, 3, none⟩ (.int .i64 k6)).heap.size := by simpa using hs6b
       clear hW x3n hB6 hR6 hA6 hA5 hR5
       refine (zq 3 3 B R (m + 5) _ rfl (by omega) (by omega) (by omega) hR6s).mono ?_
       rintro e w7 ⟨k7, rfl, hk7, hR7, hB7⟩
       have h5 := fv (hB7.cell hs7' hne) (hB7.fz hs7' hne) ⟨q0, f0, q1, f1, q2, f2, q3, f3, q4, f4⟩
       clear q0 f0 q1 f1 q2 f2 q3 f3 q4 f4
       obtain ⟨q0, f0, q1, f1, q2, f2, q3, f3, q4, f4⟩ := h5
       have h5 := fv (hB7.cell hs7 hne4) (hB7.fz hs7 hne4) ⟨x0, y0, x1, y1, x2, y2, x3, y3, x4, y4⟩
       clear x0 y0 x1 y1 x2 y2 x3 y3 x4 y4
       obtain ⟨x0, y0, x1, y1, x2, y2, x3, y3, x4, y4⟩ := h5
       have hA7 := hA6s.trans hB7 (fun _ _ h => h)
       have hs7a : n4 < w7.heap.size := Nat.lt_of_lt_of_le hs7 hB7.size
       have hs7b : w.heap.size < w7.heap.size := by omega
       clear hB7 hR6s hA6s hs7 hs7'
       go_wp2
       refine bodyPost_ret (v := .agg #[.int .i64 (2), .int .i64 (1 + (k1 : Int)), .int .i64 ((k2 : Int)), .int .i64 ((k6 : Int)), .bool (decide ((0 : Int) < k7))]) (by simp [results, Tryz.results23, go_sem, q0, q1, q2, q3, q4]) rfl ⟨⟨2, 1 + (k1 : Int), (k2 : Int), (k6 : Int), decide ((0 : Int) < k7)⟩, rfl, ⟨⟨by dsimp only; omega, by dsimp only; omega⟩, ⟨by dsimp only; omega, by dsimp only; omega⟩, ⟨by dsimp only; omega, by dsimp only; omega⟩, ⟨by dsimp only; omega, by dsimp only; omega⟩⟩, ?_, ?_⟩
       . refine (Rd.high (L := w.heap.size) hR7 ?_ hRl).mono (by omega)
         repeat (with_reducible refine Agr.setCell ?_ (.inr (by first | exact Nat.le_refl _ | (show w.heap.size ≤ n4; omega))) _)
         with_reducible exact Agr.refl _ _
       . repeat (with_reducible refine Agr.setCell ?_ (.inl (by first | exact Nat.le_refl _ | (show w.heap.size ≤ n4; omega))) _)
         with_reducible exact hA7
     . have t5 : ((k5 : Int) == 0) = false := by rw [beq_eq_false_iff_ne]; omega
       clear h5
       go_wp2
       refine bodyPost_ret (v := .agg #[.int .i64 (2), .int .i64 (1 + (k1 : Int)), .int .i64 ((k2 : Int)), .int .i64 (9), .bool (false)]) (by simp [results, Tryz.results23, go_sem, q0, q1, q2, q3, q4]) rfl ⟨⟨2, 1 + (k1 : Int), (k2 : Int), 9, false⟩, rfl, ⟨⟨by dsimp only; omega, by dsimp only; omega⟩, ⟨by dsimp only; omega, by dsimp only; omega⟩, ⟨by dsimp only; omega, by dsimp only; omega⟩, ⟨by dsimp only; omega, by dsimp only; omega⟩⟩, ?_, ?_⟩
       . refine (Rd.high (L := w.heap.size) hR5 ?_ hRl).mono (by omega)
         repeat (with_reducible refine Agr.setCell ?_ (.inr (by first | exact Nat.le_refl _ | (show w.heap.size ≤ n4; omega))) _)
         with_reducible exact Agr.refl _ _
       . repeat (with_reducible refine Agr.setCell ?_ (.inl (by first | exact Nat.le_refl _ | (show w.heap.size ≤ n4; omega))) _)
         with_reducible exact hA5

   . clear hk3
     go_wp2_with fail
     have hW := z8 x0 (.int .i64 2)
     have hRs : Rd (w3.setCell ⟨n4, 0, none⟩ (.int .i64 2)) B R (m + 3) := hR3.agr hW.agr (by omega) (fun b hb e => by have := hR3.le; omega)
     have hAs : Agr (· = R) w (w3.setCell ⟨n4, 0, none⟩ (.int .i64 2)) := hA3.setCell (.inl (by show w.heap.size ≤ n4; omega)) _
     have x0n : (w3.setCell ⟨n4, 0, none⟩ (.int .i64 2)).cell? ⟨n4, 0, none⟩ = some (.int .i64 2) := hW.new_ 0 _ rfl
     have h5 := fv (hW.agr.cell (b := w.heap.size) (by omega) (by omega)) (fun j => hW.frozen ⟨w.heap.size, j, none⟩) ⟨q0, f0, q1, f1, q2, f2, q3, f3, q4, f4⟩
     clear q0 f0 q1 f1 q2 f2 q3 f3 q4 f4
     obtain ⟨q0, f0, q1, f1, q2, f2, q3, f3, q4, f4⟩ := h5
     have h5 := fu (fun j => hW.frozen ⟨n4, j, none⟩) ⟨y0, y1, y2, y3, y4⟩
     clear y0 y1 y2 y3 y4
     obtain ⟨y0, y1, y2, y3, y4⟩ := h5
     replace x1 := (hW.old_ 1 (by simp)).trans x1
     replace x2 := (hW.old_ 2 (by simp)).trans x2
     replace x3 := (hW.old_ 3 (by simp)).trans x3
     replace x4 := (hW.old_ 4 (by simp)).trans x4
     replace x0 := x0n
     have hsa : n4 < (w3.setCell ⟨n4, 0, none⟩ (.int .i64 2)).heap.size := by simpa using hs3
     have hsb : w.heap.size < (w3.setCell ⟨n4, 0, none⟩ (.int .i64 2)).heap.size := by simpa using hs3'
     clear hW x0n hR3 hA3
     refine (zq 4 4 B R (m + 3) _ rfl (by omega) (by omega) (by omega) hRs).mono ?_
     rintro e w5 ⟨k5, rfl, hk5, hR5, hB5⟩
     have h5 := fv (hB5.cell hsb hne) (hB5.fz hsb hne) ⟨q0, f0, q1, f1, q2, f2, q3, f3, q4, f4⟩
     clear q0 f0 q1 f1 q2 f2 q3 f3 q4 f4
     obtain ⟨q0, f0, q1, f1, q2, f2, q3, f3, q4, f4⟩ := h5
     have h5 := fv (hB5.cell hsa hne4) (hB5.fz hsa hne4) ⟨x0, y0, x1, y1, x2, y2, x3, y3, x4, y4⟩
     clear x0 y0 x1 y1 x2 y2 x3 y3 x4 y4
     obtain ⟨x0, y0, x1, y1, x2, y2, x3, y3, x4, y4⟩ := h5
     have hA5 := hAs.trans hB5 (fun _ _ h => h)
     have hs5 : n4 < w5.heap.size := Nat.lt_of_lt_of_le hsa hB5.size
     have hs5' : w.heap.size < w5.heap.size := by omega
     clear hB5 hAs hRs
     by_cases h5 : k5 = 0
     . have t5 : ((k5 : Int) == 0) = true := by subst h5; rfl
       clear h5
       go_wp2_with fail
       refine (zq 5 5 B R (m + 4) _ rfl (by omega) (by omega) (by omega) hR5).mono ?_
       rintro e w6 ⟨k6, rfl, hk6, hR6, hB6⟩
       have h5 := fv (hB6.cell hs5' hne) (hB6.fz hs5' hne) ⟨q0, f0, q1, f1, q2, f2, q3, f3, q4, f4⟩
       clear q0 f0 q1 f1 q2 f2 q3 f3 q4 f4
       obtain ⟨q0, f0, q1, f1, q2, f2, q3, f3, q4, f4⟩ := h5
       have h5 := fv (hB6.cell hs5 hne4) (hB6.fz hs5 hne4) ⟨x0, y0, x1, y1, x2, y2, x3, y3, x4, y4⟩
       clear x0 y0 x1 y1 x2 y2 x3 y3 x4 y4
       obtain ⟨x0, y0, x1, y1, x2, y2, x3, y3, x4, y4⟩ := h5
       have hA6 := hA5.trans hB6 (fun _ _ h => h)
       have hs6a : n4 < w6.heap.size := Nat.lt_of_lt_of_le hs5 hB6.size
       have hs6b : w.heap.size < w6.heap.size := by omega
       go_wp2_with fail
       have hW := z8 x3 (.int .i64 k6)
       have hR6s : Rd (w6.setCell ⟨n4, 3, none⟩ (.int .i64 k6)) B R (m + 5) := hR6.agr hW.agr (by omega) (fun b hb e => by have := hR6.le; omega)
       have hA6s : Agr (· = R) w (w6.setCell ⟨n4, 3, none⟩ (.int .i64 k6)) := hA6.setCell (.inl (by show w.heap.size ≤ n4; omega)) _
       have x3n : (w6.setCell ⟨n4, 3, none⟩ (.int .i64 k6)).cell? ⟨n4, 3, none⟩ = some (.int .i64 k6) := hW.new_ 0 _ rfl
       have h5 := fv (hW.agr.cell (b := w.heap.size) (by omega) (by omega)) (fun j => hW.frozen ⟨w.heap.size, j, none⟩) ⟨q0, f0, q1, f1, q2, f2, q3, f3, q4, f4⟩
       clear q0 f0 q1 f1 q2 f2 q3 f3 q4 f4
       obtain ⟨q0, f0, q1, f1, q2, f2, q3, f3, q4, f4⟩ := h5
       have h5 := fu (fun j => hW.frozen ⟨n4, j, none⟩) ⟨y0, y1, y2, y3, y4⟩
       clear y0 y1 y2 y3 y4
       obtain ⟨y0, y1, y2, y3, y4⟩ := h5
       replace x0 := (hW.old_ 0 (by simp)).trans x0
       replace x1 := (hW.old_ 1 (by simp)).trans x1
       replace x2 := (hW.old_ 2 (by simp)).trans x2
       replace x4 := (hW.old_ 4 (by simp)).trans x4
       replace x3 := x3n
       have hs7 : n4 < (w6.setCell ⟨n4, 3, none⟩ (.int .i64 k6)).heap.size := by simpa using hs6a
       have hs7' : w.heap.size < (w6.setCell ⟨n4, 3, none⟩ (.int .i64 k6)).heap.size := by simpa using hs6b
       clear hW x3n hB6 hR6 hA6 hA5 hR5
       refine (zq 3 3 B R (m + 5) _ rfl (by omega) (by omega) (by omega) hR6s).mono ?_
       rintro e w7 ⟨k7, rfl, hk7, hR7, hB7⟩
       have h5 := fv (hB7.cell hs7' hne) (hB7.fz hs7' hne) ⟨q0, f0, q1, f1, q2, f2, q3, f3, q4, f4⟩
       clear q0 f0 q1 f1 q2 f2 q3 f3 q4 f4
       obtain ⟨q0, f0, q1, f1, q2, f2, q3, f3, q4, f4⟩ := h5
       have h5 := fv (hB7.cell hs7 hne4) (hB7.fz hs7 hne4) ⟨x0, y0, x1, y1, x2, y2, x3, y3, x4, y4⟩
       clear x0 y0 x1 y1 x2 y2 x3 y3 x4 y4
       obtain ⟨x0, y0, x1, y1, x2, y2, x3, y3, x4, y4⟩ := h5
       have hA7 := hA6s.trans hB7 (fun _ _ h => h)
       have hs7a : n4 < w7.heap.size := Nat.lt_of_lt_of_le hs7 hB7.size
       have hs7b : w.heap.size < w7.heap.size := by omega
       clear hB7 hR6s hA6s hs7 hs7'
       go_wp2
       refine bodyPost_ret (v := .agg #[.int .i64 (2), .int .i64 (1 + (k1 : Int)), .int .i64 ((k2 : Int)), .int .i64 ((k6 : Int)), .bool (decide ((0 : Int) < k7))]) (by simp [results, Tryz.results23, go_sem, q0, q1, q2, q3, q4]) rfl ⟨⟨2, 1 + (k1 : Int), (k2 : Int), (k6 : Int), decide ((0 : Int) < k7)⟩, rfl, ⟨⟨by dsimp only; omega, by dsimp only; omega⟩, ⟨by dsimp only; omega, by dsimp only; omega⟩, ⟨by dsimp only; omega, by dsimp only; omega⟩, ⟨by dsimp only; omega, by dsimp only; omega⟩⟩, ?_, ?_⟩
       . refine (Rd.high (L := w.heap.size) hR7 ?_ hRl).mono (by omega)
         repeat (with_reducible refine Agr.setCell ?_ (.inr (by first | exact Nat.le_refl _ | (show w.heap.size ≤ n4; omega))) _)
         with_reducible exact Agr.refl _ _
       . repeat (with_reducible refine Agr.setCell ?_ (.inl (by first | exact Nat.le_refl _ | (show w.heap.size ≤ n4; omega))) _)
         with_reducible exact hA7
     . have t5 : ((k5 : Int) == 0) = false := by rw [beq_eq_false_iff_ne]; omega
       clear h5
       go_wp2
       refine bodyPost_ret (v := .agg #[.int .i64 (2), .int .i64 (1 + (k1 : Int)), .int .i64 ((k2 : Int)), .int .i64 (9), .bool (false)]) (by simp [results, Tryz.results23, go_sem, q0, q1, q2, q3, q4]) rfl ⟨⟨2, 1 + (k1 : Int), (k2 : Int), 9, false⟩, rfl, ⟨⟨by dsimp only; omega, by dsimp only; omega⟩, ⟨by dsimp only; omega, by dsimp only; omega⟩, ⟨by dsimp only; omega, by dsimp only; omega⟩, ⟨by dsimp only; omega, by dsimp only; omega⟩⟩, ?_, ?_⟩
       . refine (Rd.high (L := w.heap.size) hR5 ?_ hRl).mono (by omega)
         repeat (with_reducible refine Agr.setCell ?_ (.inr (by first | exact Nat.le_refl _ | (show w.heap.size ≤ n4; omega))) _)
         with_reducible exact Agr.refl _ _
       . repeat (with_reducible refine Agr.setCell ?_ (.inl (by first | exact Nat.le_refl _ | (show w.heap.size ≤ n4; omega))) _)
         with_reducible exact hA5

 . have u0 : ((k3 : Int) == 0) = false := by rw [beq_eq_false_iff_ne]; omega
   have u1 : ((k3 : Int) == 1) = false := by rw [beq_eq_false_iff_ne]; omega
   have u2 : ((k3 : Int) == 2) = false := by rw [beq_eq_false_iff_ne]; omega
   by_cases h3 : k3 = 3
   . have u3 : ((k3 : Int) == 3) = true := by rw [beq_iff_eq]; omega
     clear h0 h3
     go_wp2_with fail
     have hW := z8 x0 (.int .i64 3)
     have hRs : Rd (w3.setCell ⟨n4, 0, none⟩ (.int .i64 3)) B R (m + 3) := hR3.agr hW.agr (by omega) (fun b hb e => by have := hR3.le; omega)
     have hAs : Agr (· = R) w (w3.setCell ⟨n4, 0, none⟩ (.int .i64 3)) := hA3.setCell (.inl (by show w.heap.size ≤ n4; omega)) _
     have x0n : (w3.setCell ⟨n4, 0, none⟩ (.int .i64 3)).cell? ⟨n4, 0, none⟩ = some (.int .i64 3) := hW.new_ 0 _ rfl
     have h5 := fv (hW.agr.cell (b := w.heap.size) (by omega) (by omega)) (fun j => hW.frozen ⟨w.heap.size, j, none⟩) ⟨q0, f0, q1, f1, q2, f2, q3, f3, q4, f4⟩
     clear q0 f0 q1 f1 q2 f2 q3 f3 q4 f4
     obtain ⟨q0, f0, q1, f1, q2, f2, q3, f3, q4, f4⟩ := h5
     have h5 := fu (fun j => hW.frozen ⟨n4, j, none⟩) ⟨y0, y1, y2, y3, y4⟩
     clear y0 y1 y2 y3 y4
     obtain ⟨y0, y1, y2, y3, y4⟩ := h5
     replace x1 := (hW.old_ 1 (by simp)).trans x1
     replace x2 := (hW.old_ 2 (by simp)).trans x2
     replace x3 := (hW.old_ 3 (by simp)).trans x3
     replace x4 := (hW.old_ 4 (by simp)).trans x4
     replace x0 := x0n
     have hsa : n4 < (w3.setCell ⟨n4, 0, none⟩ (.int .i64 3)).heap.size := by simpa using hs3
     have hsb : w.heap.size < (w3.setCell ⟨n4, 0, none⟩ (.int .i64 3)).heap.size := by simpa using hs3'
     clear hW x0n hR3 hA3
     refine (zq 4 4 B R (m + 3) _ rfl (by omega) (by omega) (by omega) hRs).mono ?_
     rintro e w5 ⟨k5, rfl, hk5, hR5, hB5⟩
     have h5 := fv (hB5.cell hsb hne) (hB5.fz hsb hne) ⟨q0, f0, q1, f1, q2, f2, q3, f3, q4, f4⟩
     clear q0 f0 q1 f1 q2 f2 q3 f3 q4 f4
     obtain ⟨q0, f0, q1, f1, q2, f2, q3, f3, q4, f4⟩ := h5
     have h5 := fv (hB5.cell hsa hne4) (hB5.fz hsa hne4) ⟨x0, y0, x1, y1, x2, y2, x3, y3, x4, y4⟩
     clear x0 y0 x1 y1 x2 y2 x3 y3 x4 y4
     obtain ⟨x0, y0, x1, y1, x2, y2, x3, y3, x4, y4⟩ := h5
     have hA5 := hAs.trans hB5 (fun _ _ h => h)
     have hs5 : n4 < w5.heap.size := Nat.lt_of_lt_of_le hsa hB5.size
     have hs5' : w.heap.size < w5.heap.size := by omega
     clear hB5 hAs hRs
     by_cases h5 : k5 = 0
     . have t5 : ((k5 : Int) == 0) = true := by subst h5; rfl
       clear h5
       go_wp2_with fail
       refine (zq 5 5 B R (m + 4) _ rfl (by omega) (by omega) (by omega) hR5).mono ?_
       rintro e w6 ⟨k6, rfl, hk6, hR6, hB6⟩
       have h5 := fv (hB6.cell hs5' hne) (hB6.fz hs5' hne) ⟨q0, f0, q1, f1, q2, f2, q3, f3, q4, f4⟩
       clear q0 f0 q1 f1 q2 f2 q3 f3 q4 f4
       obtain ⟨q0, f0, q1, f1, q2, f2, q3, f3, q4, f4⟩ := h5
       have h5 := fv (hB6.cell hs5 hne4) (hB6.fz hs5 hne4) ⟨x0, y0, x1, y1, x2, y2, x3, y3, x4, y4⟩
       clear x0 y0 x1 y1 x2 y2 x3 y3 x4 y4
       obtain ⟨x0, y0, x1, y1, x2, y2, x3, y3, x4, y4⟩ := h5
       have hA6 := hA5.trans hB6 (fun _ _ h => h)
       have hs6a : n4 < w6.heap.size := Nat.lt_of_lt_of_le hs5 hB6.size
       have hs6b : w.heap.size < w6.heap.size := by omega
       go_wp2_with fail
       have hW := z8 x3 (.int .i64 k6)
       have hR6s : Rd (w6.setCell ⟨n4, 3, none⟩ (.int .i64 k6)) B R (m + 5) := hR6.agr hW.agr (by omega) (fun b hb e => by have := hR6.le; omega)
       have hA6s : Agr (· = R) w (w6.setCell ⟨n4, 3, none⟩ (.int .i64 k6)) := hA6.setCell (.inl (by show w.heap.size ≤ n4; omega)) _
       have x3n : (w6.setCell ⟨n4, 3, none⟩ (.int .i64 k6)).cell? ⟨n4, 3, none⟩ = some (.int .i64 k6) := hW.new_ 0 _ rfl
       have h5 := fv (hW.agr.cell (b := w.heap.size) (by omega) (by omega)) (fun j => hW.frozen ⟨w.heap.size, j, none⟩) ⟨q0, f0, q1, f1, q2, f2, q3, f3, q4, f4⟩
       clear q0 f0 q1 f1 q2 f2 q3 f3 q4 f4
       obtain ⟨q0, f0, q1, f1, q2, f2, q3, f3, q4, f4⟩ := h5
       have h5 := fu (fun j => hW.frozen ⟨n4, j, none⟩) ⟨y0, y1, y2, y3, y4⟩
       clear y0 y1 y2 y3 y4
       obtain ⟨y0, y1, y2, y3, y4⟩ := h5
       replace x0 := (hW.old_ 0 (by simp)).trans x0
       replace x1 := (hW.old_ 1 (by simp)).trans x1
       replace x2 := (hW.old_ 2 (by simp)).trans x2
       replace x4 := (hW.old_ 4 (by simp)).trans x4
       replace x3 := x3n
       have hs7 : n4 < (w6.setCell ⟨n4, 3, none⟩ (.int .i64 k6)).heap.size := by simpa using hs6a
       have hs7' : w.heap.size < (w6.setCell ⟨n4, 3, none⟩ (.int .i64 k6)).heap.size := by simpa using hs6b
       clear hW x3n hB6 hR6 hA6 hA5 hR5
       refine (zq 3 3 B R (m + 5) _ rfl (by omega) (by omega) (by omega) hR6s).mono ?_
       rintro e w7 ⟨k7, rfl, hk7, hR7, hB7⟩
       have h5 := fv (hB7.cell hs7' hne) (hB7.fz hs7' hne) ⟨q0, f0, q1, f1, q2, f2, q3, f3, q4, f4⟩
       clear q0 f0 q1 f1 q2 f2 q3 f3 q4 f4
       obtain ⟨q0, f0, q1, f1, q2, f2, q3, f3, q4, f4⟩ := h5
       have h5 := fv (hB7.cell hs7 hne4) (hB7.fz hs7 hne4) ⟨x0, y0, x1, y1, x2, y2, x3, y3, x4, y4⟩
       clear x0 y0 x1 y1 x2 y2 x3 y3 x4 y4
       obtain ⟨x0, y0, x1, y1, x2, y2, x3, y3, x4, y4⟩ := h5
       have hA7 := hA6s.trans hB7 (fun _ _ h => h)
       have hs7a : n4 < w7.heap.size := Nat.lt_of_lt_of_le hs7 hB7.size
       have hs7b : w.heap.size < w7.heap.size := by omega
       clear hB7 hR6s hA6s hs7 hs7'
       go_wp2
       refine bodyPost_ret (v := .agg #[.int .i64 (3), .int .i64 (1 + (k1 : Int)), .int .i64 ((k2 : Int)), .int .i64 ((k6 : Int)), .bool (decide ((0 : Int) < k7))]) (by simp [results, Tryz.results23, go_sem, q0, q1, q2, q3, q4]) rfl ⟨⟨3, 1 + (k1 : Int), (k2 : Int), (k6 : Int), decide ((0 : Int) < k7)⟩, rfl, ⟨⟨by dsimp only; omega, by dsimp only; omega⟩, ⟨by dsimp only; omega, by dsimp only; omega⟩, ⟨by dsimp only; omega, by dsimp only; omega⟩, ⟨by dsimp only; omega, by dsimp only; omega⟩⟩, ?_, ?_⟩
       . refine (Rd.high (L := w.heap.size) hR7 ?_ hRl).mono (by omega)
         repeat (with_reducible refine Agr.setCell ?_ (.inr (by first | exact Nat.le_refl _ | (show w.heap.size ≤ n4; omega))) _)
         with_reducible exact Agr.refl _ _
       . repeat (with_reducible refine Agr.setCell ?_ (.inl (by first | exact Nat.le_refl _ | (show w.heap.size ≤ n4; omega))) _)
         with_reducible exact hA7
     . have t5 : ((k5 : Int) == 0) = false := by rw [beq_eq_false_iff_ne]; omega
       clear h5
       go_wp2
       refine bodyPost_ret (v := .agg #[.int .i64 (3), .int .i64 (1 + (k1 : Int)), .int .i64 ((k2 : Int)), .int .i64 (9), .bool (false)]) (by simp [results, Tryz.results23, go_sem, q0, q1, q2, q3, q4]) rfl ⟨⟨3, 1 + (k1 : Int), (k2 : Int), 9, false⟩, rfl, ⟨⟨by dsimp only; omega, by dsimp only; omega⟩, ⟨by dsimp only; omega, by dsimp only; omega⟩, ⟨by dsimp only; omega, by dsimp only; omega⟩, ⟨by dsimp only; omega, by dsimp only; omega⟩⟩, ?_, ?_⟩
       . refine (Rd.high (L := w.heap.size) hR5 ?_ hRl).mono (by omega)
         repeat (with_reducible refine Agr.setCell ?_ (.inr (by first | exact Nat.le_refl _ | (show w.heap.size ≤ n4; omega))) _)
         with_reducible exact Agr.refl _ _
       . repeat (with_reducible refine Agr.setCell ?_ (.inl (by first | exact Nat.le_refl _ | (show w.heap.size ≤ n4; omega))) _)
         with_reducible exact hA5

   . have u3 : ((k3 : Int) == 3) = false := by rw [beq_eq_false_iff_ne]; omega
     by_cases h4 : k3 = 4
     . have u4 : ((k3 : Int) == 4) = true := by rw [beq_iff_eq]; omega
       clear h0 h3 h4
       go_wp2_with fail
       refine (zq 3 3 B R (m + 3) _ rfl (by omega) (by omega) (by omega) hR3).mono ?_
       rintro e w4 ⟨k4, rfl, hk4, hR4, hB4⟩
       have h5 := fv (hB4.cell hs3' hne) (hB4.fz hs3' hne) ⟨q0, f0, q1, f1, q2, f2, q3, f3, q4, f4⟩
       clear q0 f0 q1 f1 q2 f2 q3 f3 q4 f4
       obtain ⟨q0, f0, q1, f1, q2, f2, q3, f3, q4, f4⟩ := h5
       have h5 := fv (hB4.cell hs3 hne4) (hB4.fz hs3 hne4) ⟨x0, y0, x1, y1, x2, y2, x3, y3, x4, y4⟩
       clear x0 y0 x1 y1 x2 y2 x3 y3 x4 y4
       obtain ⟨x0, y0, x1, y1, x2, y2, x3, y3, x4, y4⟩ := h5
       have hA4 := hA3.trans hB4 (fun _ _ h => h)
       have hs4 : n4 < w4.heap.size := Nat.lt_of_lt_of_le hs3 hB4.size
       have hs4' : w.heap.size < w4.heap.size := by omega
       clear hB4 hA3 hR3
       by_cases h4 : k4 = 0
       . have t4 : ((k4 : Int) == 0) = true := by subst h4; rfl
         clear h4
         go_wp2_with fail
         have hW := z8 x0 (.int .i64 4)
         have hRs : Rd (w4.setCell ⟨n4, 0, none⟩ (.int .i64 4)) B R (m + 4) := hR4.agr hW.agr (by omega) (fun b hb e => by have := hR4.le; omega)
         have hAs : Agr (· = R) w (w4.setCell ⟨n4, 0, none⟩ (.int .i64 4)) := hA4.setCell (.inl (by show w.heap.size ≤ n4; omega)) _
         have x0n : (w4.setCell ⟨n4, 0, none⟩ (.int .i64 4)).cell? ⟨n4, 0, none⟩ = some (.int .i64 4) := hW.new_ 0 _ rfl
         have h5 := fv (hW.agr.cell (b := w.heap.size) (by omega) (by omega)) (fun j => hW.frozen ⟨w.heap.size, j, none⟩) ⟨q0, f0, q1, f1, q2, f2, q3, f3, q4, f4⟩
         clear q0 f0 q1 f1 q2 f2 q3 f3 q4 f4
         obtain ⟨q0, f0, q1, f1, q2, f2, q3, f3, q4, f4⟩ := h5
         have h5 := fu (fun j => hW.frozen ⟨n4, j, none⟩) ⟨y0, y1, y2, y3, y4⟩
         clear y0 y1 y2 y3 y4
         obtain ⟨y0, y1, y2, y3, y4⟩ := h5
         replace x1 := (hW.old_ 1 (by simp)).trans x1
         replace x2 := (hW.old_ 2 (by simp)).trans x2
         replace x3 := (hW.old_ 3 (by simp)).trans x3
         replace x4 := (hW.old_ 4 (by simp)).trans x4
         replace x0 := x0n
         have hsa : n4 < (w4.setCell ⟨n4, 0, none⟩ (.int .i64 4)).heap.size := by simpa using hs4
         have hsb : w.heap.size < (w4.setCell ⟨n4, 0, none⟩ (.int .i64 4)).heap.size := by simpa using hs4'
         clear hW x0n hR4 hA4
         refine (zq 4 4 B R (m + 4) _ rfl (by omega) (by omega) (by omega) hRs).mono ?_
         rintro e w5 ⟨k5, rfl, hk5, hR5, hB5⟩
         have h5 := fv (hB5.cell hsb hne) (hB5.fz hsb hne) ⟨q0, f0, q1, f1, q2, f2, q3, f3, q4, f4⟩
         clear q0 f0 q1 f1 q2 f2 q3 f3 q4 f4
         obtain ⟨q0, f0, q1, f1, q2, f2, q3, f3, q4, f4⟩ := h5
         have h5 := fv (hB5.cell hsa hne4) (hB5.fz hsa hne4) ⟨x0, y0, x1, y1, x2, y2, x3, y3, x4, y4⟩
         clear x0 y0 x1 y1 x2 y2 x3 y3 x4 y4
         obtain ⟨x0, y0, x1, y1, x2, y2, x3, y3, x4, y4⟩ := h5
         have hA5 := hAs.trans hB5 (fun _ _ h => h)
         have hs5 : n4 < w5.heap.size := Nat.lt_of_lt_of_le hsa hB5.size
         have hs5' : w.heap.size < w5.heap.size := by omega
         clear hB5 hAs hRs
         by_cases h5 : k5 = 0
         . have t5 : ((k5 : Int) == 0) = true := by subst h5; rfl
           clear h5
           go_wp2_with fail
           refine (zq 5 5 B R (m + 5) _ rfl (by omega) (by omega) (by omega) hR5).mono ?_
           rintro e w6 ⟨k6, rfl, hk6, hR6, hB6⟩
           have h5 := fv (hB6.cell hs5' hne) (hB6.fz hs5' hne) ⟨q0, f0, q1, f1, q2, f2, q3, f3, q4, f4⟩
           clear q0 f0 q1 f1 q2 f2 q3 f3 q4 f4
           obtain ⟨q0, f0, q1, f1, q2, f2, q3, f3, q4, f4⟩ := h5
           have h5 := fv (hB6.cell hs5 hne4) (hB6.fz hs5 hne4) ⟨x0, y0, x1, y1, x2, y2, x3, y3, x4, y4⟩
           clear x0 y0 x1 y1 x2 y2 x3 y3 x4 y4
           obtain ⟨x0, y0, x1, y1, x2, y2, x3, y3, x4, y4⟩ := h5
           have hA6 := hA5.trans hB6 (fun _ _ h => h)
           have hs6a : n4 < w6.heap.size := Nat.lt_of_lt_of_le hs5 hB6.size
           have hs6b : w.heap.size < w6.heap.size := by omega
           go_wp2_with fail
           have hW := z8 x3 (.int .i64 k6)
           have hR6s : Rd (w6.setCell ⟨n4, 3, none⟩ (.int .i64 k6)) B R (m + 6) := hR6.agr hW.agr (by omega) (fun b hb e => by have := hR6.le; omega)
           have hA6s : Agr (· = R) w (w6.setCell ⟨n4, 3, none⟩ (.int .i64 k6)) := hA6.setCell (.inl (by show w.heap.size ≤ n4; omega)) _
           have x3n : (w6.setCell ⟨n4, 3, none⟩ (.int .i64 k6)).cell? ⟨n4, 3, none⟩ = some (.int .i64 k6) := hW.new_ 0 _ rfl
           have h5 := fv (hW.agr.cell (b := w.heap.size) (by omega) (by omega)) (fun j => hW.frozen ⟨w.heap.size, j, none⟩) ⟨q0, f0, q1, f1, q2, f2, q3, f3, q4, f4⟩
           clear q0 f0 q1 f1 q2 f2 q3 f3 q4 f4
           obtain ⟨q0, f0, q1, f1, q2, f2, q3, f3, q4, f4⟩ := h5
           have h5 := fu (fun j => hW.frozen ⟨n4, j, none⟩) ⟨y0, y1, y2, y3, y4⟩
           clear y0 y1 y2 y3 y4
           obtain ⟨y0, y1, y2, y3, y4⟩ := h5
           replace x0 := (hW.old_ 0 (by simp)).trans x0
           replace x1 := (hW.old_ 1 (by simp)).trans x1
           replace x2 := (hW.old_ 2 (by simp)).trans x2
           replace x4 := (hW.old_ 4 (by simp)).trans x4
           replace x3 := x3n
           have hs7 : n4 < (w6.setCell ⟨n4, 3, none⟩ (.int .i64 k6)).heap.size := by simpa using hs6a
           have hs7' : w.heap.size < (w6.setCell ⟨n4, 3, none⟩ (.int .i64 k6)).heap.size := by simpa using hs6b
           clear hW x3n hB6 hR6 hA6 hA5 hR5
           refine (zq 3 3 B R (m + 6) _ rfl (by omega) (by omega) (by omega) hR6s).mono ?_
           rintro e w7 ⟨k7, rfl, hk7, hR7, hB7⟩
           have h5 := fv (hB7.cell hs7' hne) (hB7.fz hs7' hne) ⟨q0, f0, q1, f1, q2, f2, q3, f3, q4, f4⟩
           clear q0 f0 q1 f1 q2 f2 q3 f3 q4 f4
           obtain ⟨q0, f0, q1, f1, q2, f2, q3, f3, q4, f4⟩ := h5
           have h5 := fv (hB7.cell hs7 hne4) (hB7.fz hs7 hne4) ⟨x0, y0, x1, y1, x2, y2, x3, y3, x4, y4⟩
           clear x0 y0 x1 y1 x2 y2 x3 y3 x4 y4
           obtain ⟨x0, y0, x1, y1, x2, y2, x3, y3, x4, y4⟩ := h5
           have hA7 := hA6s.trans hB7 (fun _ _ h => h)
           have hs7a : n4 < w7.heap.size := Nat.lt_of_lt_of_le hs7 hB7.size
           have hs7b : w.heap.size < w7.heap.size := by omega
           clear hB7 hR6s hA6s hs7 hs7'
           go_wp2
           refine bodyPost_ret (v := .agg #[.int .i64 (4), .int .i64 (1 + (k1 : Int)), .int .i64 ((k2 : Int)), .int .i64 ((k6 : Int)), .bool (decide ((0 : Int) < k7))]) (by simp [results, Tryz.results23, go_sem, q0, q1, q2, q3, q4]) rfl ⟨⟨4, 1 + (k1 : Int), (k2 : Int), (k6 : Int), decide ((0 : Int) < k7)⟩, rfl, ⟨⟨by dsimp only; omega, by dsimp only; omega⟩, ⟨by dsimp only; omega, by dsimp only; omega⟩, ⟨by dsimp only; omega, by dsimp only; omega⟩, ⟨by dsimp only; omega, by dsimp only; omega⟩⟩, ?_, ?_⟩
           . refine (Rd.high (L := w.heap.size) hR7 ?_ hRl).mono (by omega)
             repeat (with_reducible refine Agr.setCell ?_ (.inr (by first | exact Nat.le_refl _ | (show w.heap.size ≤ n4; omega))) _)
             with_reducible exact Agr.refl _ _
           . repeat (with_reducible refine Agr.setCell ?_ (.inl (by first | exact Nat.le_refl _ | (show w.heap.size ≤ n4; omega))) _)
             with_reducible exact hA7
         . have t5 : ((k5 : Int) == 0) = false := by rw [beq_eq_false_iff_ne]; omega
           clear h5
           go_wp2
           refine bodyPost_ret (v := .agg #[.int .i64 (4), .int .i64 (1 + (k1 : Int)), .int .i64 ((k2 : Int)), .int .i64 (9), .bool (false)]) (by simp [results, Tryz.results23, go_sem, q0, q1, q2, q3, q4]) rfl ⟨⟨4, 1 + (k1 : Int), (k2 : Int), 9, false⟩, rfl, ⟨⟨by dsimp only; omega, by dsimp only; omega⟩, ⟨by dsimp only; omega, by dsimp only; omega⟩, ⟨by dsimp only; omega, by dsimp only; omega⟩, ⟨by dsimp only; omega, by dsimp only; omega⟩⟩, ?_, ?_⟩
           . refine (Rd.high (L := w.heap.size) hR5 ?_ hRl).mono (by omega)
             repeat (with_reducible refine Agr.setCell ?_ (.inr (by first | exact Nat.le_refl _ | (show w.heap.size ≤ n4; omega))) _)
             with_reducible exact Agr.refl _ _
           . repeat (with_reducible refine Agr.setCell ?_ (.inl (by first | exact Nat.le_refl _ | (show w.heap.size ≤ n4; omega))) _)
             with_reducible exact hA5

       . have t4 : ((k4 : Int) == 0) = false := by rw [beq_eq_false_iff_ne]; omega
         clear h4
         go_wp2_with fail
         refine (zq 4 4 B R (m + 4) _ rfl (by omega) (by omega) (by omega) hR4).mono ?_
         rintro e w5 ⟨k5, rfl, hk5, hR5, hB5⟩
         have h5 := fv (hB5.cell hs4' hne) (hB5.fz hs4' hne) ⟨q0, f0, q1, f1, q2, f2, q3, f3, q4, f4⟩
         clear q0 f0 q1 f1 q2 f2 q3 f3 q4 f4
         obtain ⟨q0, f0, q1, f1, q2, f2, q3, f3, q4, f4⟩ := h5
         have h5 := fv (hB5.cell hs4 hne4) (hB5.fz hs4 hne4) ⟨x0, y0, x1, y1, x2, y2, x3, y3, x4, y4⟩
         clear x0 y0 x1 y1 x2 y2 x3 y3 x4 y4
         obtain ⟨x0, y0, x1, y1, x2, y2, x3, y3, x4, y4⟩ := h5
         have hA5 := hA4.trans hB5 (fun _ _ h => h)
         have hs5 : n4 < w5.heap.size := Nat.lt_of_lt_of_le hs4 hB5.size
         have hs5' : w.heap.size < w5.heap.size := by omega
         clear hB5 hA4 hR4
         by_cases h5 : k5 = 0
         . have t5 : ((k5 : Int) == 0) = true := by subst h5; rfl
           clear h5
           go_wp2_with fail
           refine (zq 5 5 B R (m + 5) _ rfl (by omega) (by omega) (by omega) hR5).mono ?_
           rintro e w6 ⟨k6, rfl, hk6, hR6, hB6⟩
           have h5 := fv (hB6.cell hs5' hne) (hB6.fz hs5' hne) ⟨q0, f0, q1, f1, q2, f2, q3, f3, q4, f4⟩
           clear q0 f0 q1 f1 q2 f2 q3 f3 q4 f4
           obtain ⟨q0, f0, q1, f1, q2, f2, q3, f3, q4, f4⟩ := h5
           have h5 := fv (hB6.cell hs5 hne4) (hB6.fz hs5 hne4) ⟨x0, y0, x1, y1, x2, y2, x3, y3, x4, y4⟩
           clear x0 y0 x1 y1 x2 y2 x3 y3 x4 y4
           obtain ⟨x0, y0, x1, y1, x2, y2, x3, y3, x4, y4⟩ := h5
           have hA6 := hA5.trans hB6 (fun _ _ h => h)
           have hs6a : n4 < w6.heap.size := Nat.lt_of_lt_of_le hs5 hB6.size
           have hs6b : w.heap.size < w6.heap.size := by omega
           go_wp2_with fail
           have hW := z8 x3 (.int .i64 k6)
           have hR6s : Rd (w6.setCell ⟨n4, 3, none⟩ (.int .i64 k6)) B R (m + 6) := hR6.agr hW.agr (by omega) (fun b hb e => by have := hR6.le; omega)
           have hA6s : Agr (· = R) w (w6.setCell ⟨n4, 3, none⟩ (.int .i64 k6)) := hA6.setCell (.inl (by show w.heap.size ≤ n4; omega)) _
           have x3n : (w6.setCell ⟨n4, 3, none⟩ (.int .i64 k6)).cell? ⟨n4, 3, none⟩ = some (.int .i64 k6) := hW.new_ 0 _ rfl
           have h5 := fv (hW.agr.cell (b := w.heap.size) (by omega) (by omega)) (fun j => hW.frozen ⟨w.heap.size, j, none⟩) ⟨q0, f0, q1, f1, q2, f2, q3, f3, q4, f4⟩
           clear q0 f0 q1 f1 q2 f2 q3 f3 q4 f4
           obtain ⟨q0, f0, q1, f1, q2, f2, q3, f3, q4, f4⟩ := h5
           have h5 := fu (fun j => hW.frozen ⟨n4, j, none⟩) ⟨y0, y1, y2, y3, y4⟩
           clear y0 y1 y2 y3 y4
           obtain ⟨y0, y1, y2, y3, y4⟩ := h5
           replace x0 := (hW.old_ 0 (by simp)).trans x0
           replace x1 := (hW.old_ 1 (by simp)).trans x1
           replace x2 := (hW.old_ 2 (by simp)).trans x2
           replace x4 := (hW.old_ 4 (by simp)).trans x4
           replace x3 := x3n
           have hs7 : n4 < (w6.setCell ⟨n4, 3, none⟩ (.int .i64 k6)).heap.size := by simpa using hs6a
           have hs7' : w.heap.size < (w6.setCell ⟨n4, 3, none⟩ (.int .i64 k6)).heap.size := by simpa using hs6b
           clear hW x3n hB6 hR6 hA6 hA5 hR5
           refine (zq 3 3 B R (m + 6) _ rfl (by omega) (by omega) (by omega) hR6s).mono ?_
           rintro e w7 ⟨k7, rfl, hk7, hR7, hB7⟩
           have h5 := fv (hB7.cell hs7' hne) (hB7.fz hs7' hne) ⟨q0, f0, q1, f1, q2, f2, q3, f3, q4, f4⟩
           clear q0 f0 q1 f1 q2 f2 q3 f3 q4 f4
           obtain ⟨q0, f0, q1, f1, q2, f2, q3, f3, q4, f4⟩ := h5
           have h5 := fv (hB7.cell hs7 hne4) (hB7.fz hs7 hne4) ⟨x0, y0, x1, y1, x2, y2, x3, y3, x4, y4⟩
           clear x0 y0 x1 y1 x2 y2 x3 y3 x4 y4
           obtain ⟨x0, y0, x1, y1, x2, y2, x3, y3, x4, y4⟩ := h5
           have hA7 := hA6s.trans hB7 (fun _ _ h => h)
           have hs7a : n4 < w7.heap.size := Nat.lt_of_lt_of_le hs7 hB7.size
           have hs7b : w.heap.size < w7.heap.size := by omega
           clear hB7 hR6s hA6s hs7 hs7'
           go_wp2
           refine bodyPost_ret (v := .agg #[.int .i64 (1), .int .i64 (1 + (k1 : Int)), .int .i64 ((k2 : Int)), .int .i64 ((k6 : Int)), .bool (decide ((0 : Int) < k7))]) (by simp [results, Tryz.results23, go_sem, q0, q1, q2, q3, q4]) rfl ⟨⟨1, 1 + (k1 : Int), (k2 : Int), (k6 : Int), decide ((0 : Int) < k7)⟩, rfl, ⟨⟨by dsimp only; omega, by dsimp only; omega⟩, ⟨by dsimp only; omega, by dsimp only; omega⟩, ⟨by dsimp only; omega, by dsimp only; omega⟩, ⟨by dsimp only; omega, by dsimp only; omega⟩⟩, ?_, ?_⟩
           . refine (Rd.high (L := w.heap.size) hR7 ?_ hRl).mono (by omega)
             repeat (with_reducible refine Agr.setCell ?_ (.inr (by first | exact Nat.le_refl _ | (show w.heap.size ≤ n4; omega))) _)
             with_reducible exact Agr.refl _ _
           . repeat (with_reducible refine Agr.setCell ?_ (.inl (by first | exact Nat.le_refl _ | (show w.heap.size ≤ n4; omega))) _)
             with_reducible exact hA7
         . have t5 : ((k5 : Int) == 0) = false := by rw [beq_eq_false_iff_ne]; omega
           clear h5
           go_wp2
           refine bodyPost_ret (v := .agg #[.int .i64 (1), .int .i64 (1 + (k1 : Int)), .int .i64 ((k2 : Int)), .int .i64 (9), .bool (false)]) (by simp [results, Tryz.results23, go_sem, q0, q1, q2, q3, q4]) rfl ⟨⟨1, 1 + (k1 : Int), (k2 : Int), 9, false⟩, rfl, ⟨⟨by dsimp only; omega, by dsimp only; omega⟩, ⟨by dsimp only; omega, by dsimp only; omega⟩, ⟨by dsimp only; omega, by dsimp only; omega⟩, ⟨by dsimp only; omega, by dsimp only; omega⟩⟩, ?_, ?_⟩
           . refine (Rd.high (L := w.heap.size) hR5 ?_ hRl).mono (by omega)
             repeat (with_reducible refine Agr.setCell ?_ (.inr (by first | exact Nat.le_refl _ | (show w.heap.size ≤ n4; omega))) _)
             with_reducible exact Agr.refl _ _
           . repeat (with_reducible refine Agr.setCell ?_ (.inl (by first | exact Nat.le_refl _ | (show w.heap.size ≤ n4; omega))) _)
             with_reducible exact hA5

     . have u4 : ((k3 : Int) == 4) = false := by rw [beq_eq_false_iff_ne]; omega
       clear h0 h3 h4
       go_wp2_with fail
       refine (zq 4 4 B R (m + 3) _ rfl (by omega) (by omega) (by omega) hR3).mono ?_
       rintro e w5 ⟨k5, rfl, hk5, hR5, hB5⟩
       have h5 := fv (hB5.cell hs3' hne) (hB5.fz hs3' hne) ⟨q0, f0, q1, f1, q2, f2, q3, f3, q4, f4⟩
       clear q0 f0 q1 f1 q2 f2 q3 f3 q4 f4
       obtain ⟨q0, f0, q1, f1, q2, f2, q3, f3, q4, f4⟩ := h5
       have h5 := fv (hB5.cell hs3 hne4) (hB5.fz hs3 hne4) ⟨x0, y0, x1, y1, x2, y2, x3, y3, x4, y4⟩
       clear x0 y0 x1 y1 x2 y2 x3 y3 x4 y4
       obtain ⟨x0, y0, x1, y1, x2, y2, x3, y3, x4, y4⟩ := h5
       have hA5 := hA3.trans hB5 (fun _ _ h => h)
       have hs5 : n4 < w5.heap.size := Nat.lt_of_lt_of_le hs3 hB5.size
       have hs5' : w.heap.size < w5.heap.size := by omega
       clear hB5 hA3 hR3
       by_cases h5 : k5 = 0
       . have t5 : ((k5 : Int) == 0) = true := by subst h5; rfl
         clear h5
         go_wp2_with fail
         refine (zq 5 5 B R (m + 4) _ rfl (by omega) (by omega) (by omega) hR5).mono ?_
         rintro e w6 ⟨k6, rfl, hk6, hR6, hB6⟩
         have h5 := fv (hB6.cell hs5' hne) (hB6.fz hs5' hne) ⟨q0, f0, q1, f1, q2, f2, q3, f3, q4, f4⟩
         clear q0 f0 q1 f1 q2 f2 q3 f3 q4 f4
         obtain ⟨q0, f0, q1, f1, q2, f2, q3, f3, q4, f4⟩ := h5
         have h5 := fv (hB6.cell hs5 hne4) (hB6.fz hs5 hne4) ⟨x0, y0, x1, y1, x2, y2, x3, y3, x4, y4⟩
         clear x0 y0 x1 y1 x2 y2 x3 y3 x4 y4
         obtain ⟨x0, y0, x1, y1, x2, y2, x3, y3, x4, y4⟩ := h5
         have hA6 := hA5.trans hB6 (fun _ _ h => h)
         have hs6a : n4 < w6.heap.size := Nat.lt_of_lt_of_le hs5 hB6.size
         have hs6b : w.heap.size < w6.heap.size := by omega
         go_wp2_with fail
         have hW := z8 x3 (.int .i64 k6)
         have hR6s : Rd (w6.setCell ⟨n4, 3, none⟩ (.int .i64 k6)) B R (m + 5) := hR6.agr hW.agr (by omega) (fun b hb e => by have := hR6.le; omega)
         have hA6s : Agr (· = R) w (w6.setCell ⟨n4, 3, none⟩ (.int .i64 k6)) := hA6.setCell (.inl (by show w.heap.size ≤ n4; omega)) _
         have x3n : (w6.setCell ⟨n4, 3, none⟩ (.int .i64 k6)).cell? ⟨n4, 3, none⟩ = some (.int .i64 k6) := hW.new_ 0 _ rfl
         have h5 := fv (hW.agr.cell (b := w.heap.size) (by omega) (by omega)) (fun j => hW.frozen ⟨w.heap.size, j, none⟩) ⟨q0, f0, q1, f1, q2, f2, q3, f3, q4, f4⟩
         clear q0 f0 q1 f1 q2 f2 q3 f3 q4 f4
         obtain ⟨q0, f0, q1, f1, q2, f2, q3, f3, q4, f4⟩ := h5
         have h5 := fu (fun j => hW.frozen ⟨n4, j, none⟩) ⟨y0, y1, y2, y3, y4⟩
         clear y0 y1 y2 y3 y4
         obtain ⟨y0, y1, y2, y3, y4⟩ := h5
         replace x0 := (hW.old_ 0 (by simp)).trans x0
         replace x1 := (hW.old_ 1 (by simp)).trans x1
         replace x2 := (hW.old_ 2 (by simp)).trans x2
         replace x4 := (hW.old_ 4 (by simp)).trans x4
         replace x3 := x3n
         have hs7 : n4 < (w6.setCell ⟨n4, 3, none⟩ (.int .i64 k6)).heap.size := by simpa using hs6a
         have hs7' : w.heap.size < (w6.setCell ⟨n4, 3, none⟩ (.int .i64 k6)).heap.size := by simpa using hs6b
         clear hW x3n hB6 hR6 hA6 hA5 hR5
         refine (zq 3 3 B R (m + 5) _ rfl (by omega) (by omega) (by omega) hR6s).mono ?_
         rintro e w7 ⟨k7, rfl, hk7, hR7, hB7⟩
         have h5 := fv (hB7.cell hs7' hne) (hB7.fz hs7' hne) ⟨q0, f0, q1, f1, q2, f2, q3, f3, q4, f4⟩
         clear q0 f0 q1 f1 q2 f2 q3 f3 q4 f4
         obtain ⟨q0, f0, q1, f1, q2, f2, q3, f3, q4, f4⟩ := h5
         have h5 := fv (hB7.cell hs7 hne4) (hB7.fz hs7 hne4) ⟨x0, y0, x1, y1, x2, y2, x3, y3, x4, y4⟩
         clear x0 y0 x1 y1 x2 y2 x3 y3 x4 y4
         obtain ⟨x0, y0, x1, y1, x2, y2, x3, y3, x4, y4⟩ := h5
         have hA7 := hA6s.trans hB7 (fun _ _ h => h)
         have hs7a : n4 < w7.heap.size := Nat.lt_of_lt_of_le hs7 hB7.size
         have hs7b : w.heap.size < w7.heap.size := by omega
         clear hB7 hR6s hA6s hs7 hs7'
         go_wp2
         refine bodyPost_ret (v := .agg #[.int .i64 (1), .int .i64 (1 + (k1 : Int)), .int .i64 ((k2 : Int)), .int .i64 ((k6 : Int)), .bool (decide ((0 : Int) < k7))]) (by simp [results, Tryz.results23, go_sem, q0, q1, q2, q3, q4]) rfl ⟨⟨1, 1 + (k1 : Int), (k2 : Int), (k6 : Int), decide ((0 : Int) < k7)⟩, rfl, ⟨⟨by dsimp only; omega, by dsimp only; omega⟩, ⟨by dsimp only; omega, by dsimp only; omega⟩, ⟨by dsimp only; omega, by dsimp only; omega⟩, ⟨by dsimp only; omega, by dsimp only; omega⟩⟩, ?_, ?_⟩
         . refine (Rd.high (L := w.heap.size) hR7 ?_ hRl).mono (by omega)
           repeat (with_reducible refine Agr.setCell ?_ (.inr (by first | exact Nat.le_refl _ | (show w.heap.size ≤ n4; omega))) _)
           with_reducible exact Agr.refl _ _
         . repeat (with_reducible refine Agr.setCell ?_ (.inl (by first | exact Nat.le_refl _ | (show w.heap.size ≤ n4; omega))) _)
           with_reducible exact hA7
       . have t5 : ((k5 : Int) == 0) = false := by rw [beq_eq_false_iff_ne]; omega
         clear h5
         go_wp2
         refine bodyPost_ret (v := .agg #[.int .i64 (1), .int .i64 (1 + (k1 : Int)), .int .i64 ((k2 : Int)), .int .i64 (9), .bool (false)]) (by simp [results, Tryz.results23, go_sem, q0, q1, q2, q3, q4]) rfl ⟨⟨1, 1 + (k1 : Int), (k2 : Int), 9, false⟩, rfl, ⟨⟨by dsimp only; omega, by dsimp only; omega⟩, ⟨by dsimp only; omega, by dsimp only; omega⟩, ⟨by dsimp only; omega, by dsimp only; omega⟩, ⟨by dsimp only; omega, by dsimp only; omega⟩⟩, ?_, ?_⟩
         . refine (Rd.high (L := w.heap.size) hR5 ?_ hRl).mono (by omega)
           repeat (with_reducible refine Agr.setCell ?_ (.inr (by first | exact Nat.le_refl _ | (show w.heap.size ≤ n4; omega))) _)
           with_reducible exact Agr.refl _ _
         . repeat (with_reducible refine Agr.setCell ?_ (.inl (by first | exact Nat.le_refl _ | (show w.heap.size ≤ n4; omega))) _)
           with_reducible exact hA5

end
section
open Go.RowKit Go.Maps
theorem Tryz.info3_event : (Tryz.prog.info? 33).map (fun i => (i.zero, i.size, i.bytes)) = some (some (.agg #[.int .i64 0, .int .i64 0, .int .i64 0, .int .i64 0, .bool false]), 5, 40) := by kernel_rfl
def OwnE (w : World) (base : Nat) (v : Value) (xs : List Ev) : Prop := w.ownsRow base 33 5 v xs.length (evs xs)
theorem OwnE.below {w w' : World} {base B : Nat} {v : Value} {xs : List Ev} (h : OwnE w base v xs) (hb : Below B w w') (hB : w.heap.size ≤ B) : OwnE w' base v xs := ji h fun b _ hl => hb.block b (by omega)
theorem OwnE.agr {w w' : World} {base : Nat} {v : Value} {xs : List Ev} {S : Nat -> Prop} (h : OwnE w base v xs) (hb : Agr S w w') (hS : ∀ b, base ≤ b -> ¬ S b) : OwnE w' base v xs := by
 refine ji h fun b hbl hl => hb.block b hl (hS b ?_)
 exact (World.ownsRow.lt h b hbl).1
theorem OwnE.mono {w : World} {base base' : Nat} {v : Value} {xs : List Ev} (h : OwnE w base v xs) (hb : base' ≤ base) : OwnE w base' v xs := World.ownsRow.mono h hb
theorem OwnE.nil (w : World) (base : Nat) (hb : base ≤ w.heap.size) : OwnE (w.alloc (.cells #[] 33)) base (.slice (some ⟨w.heap.size, 0, none⟩) 0 0) [] := World.ownsRow_lit w #[] 0 hb (by unfold maxLen; omega) rfl
theorem OwnE.snoc {w : World} {base g n c : Nat} {xs : List Ev} {x : Ev} (hn : n = xs.length + 1) (h : w.ownsRow base 33 5 (.slice (some ⟨g, 0, none⟩) (xs.length + 1) c) (xs.length + 1) (evs xs ++ x.vs)) : OwnE w base (.slice (some ⟨g, 0, none⟩) n c) (xs ++ [x]) := by
 subst hn
 unfold OwnE
 rw [List.length_append, evs, List.flatMap_append, show [x].flatMap Ev.vs = x.vs by simp]
 exact h
theorem OwnE.alloc {w : World} {base : Nat} {v : Value} {xs : List Ev} (h : OwnE w base v xs) (o : Obj) : OwnE (w.alloc o) base v xs := h.below (B := w.heap.size) ((Below.refl _ _).alloc nl _) nl
theorem zng : xy ⟨zx, Ye⟩ := by
 refine ⟨⟨rfl, fun b hb => ?_⟩, rfl, ?_⟩
 . have := List.eq_of_mem_replicate hb
   subst this
   refine ⟨rfl, by decide, by decide, ?_⟩
   decide
 . decide
def zoc (B R m : Nat) (w : World) (e : Ending) (w' : World) : Prop :=
 ∃ (v : Value) (A D : Option Addr) (c lo hi : Nat) (s : St) (xs : List Ev), e = .returned (.tuple #[v, .agg #[.slice A 4 c, .slice D 6 6]]) ∧ w.heap.size ≤ lo ∧ hi ≤ w'.heap.size ∧ 4 ≤ c ∧
   OSt w' lo hi A s.flash D s.disk ∧ xy s ∧ OwnE w' hi v xs ∧ xs.length ≤ 58 ∧ (∀ x ∈ xs, zar x) ∧ Rd w' B R (m + 500) ∧ Agr (· = R) w w'
theorem zd5 (B R m : Nat) (w : World) (hm : m ≤ 800000) (hR : Rd w B R m) :
 Calls Tryz.prog 21 #[.pointer (some ⟨R, 0, none⟩)] w (zoc B R m w) := by
 obtain ⟨ib, hib, hbz0, hbz1, hbz2⟩ := info_parts Tryz.info3_event
 have hRl := hR.lt
 have hq := Row.new w #[.slice none 0 0, .slice none 0 0] 28
 obtain ⟨q0, f0⟩ := hq.at0 (j := 0) rfl
 obtain ⟨q1, f1⟩ := hq.at0 (j := 1) rfl
 have hR0 := hR.alloc (.cells #[.slice none 0 0, .slice none 0 0] 28)
 have hs0 : w.heap.size < (w.alloc (.cells #[.slice none 0 0, .slice none 0 0] 28)).heap.size := by simp
 have hB0 : Below w.heap.size w (w.alloc (.cells #[.slice none 0 0, .slice none 0 0] 28)) := bw
 have hne : ¬ w.heap.size = R := by omega
 clear hq
 go_enter Tryz.func21, Tryz.ntmps21
 go_wp2_with fail
 refine (Jd _).mono ?_
 rintro e w1 ⟨A, c, D, rfl, hc, hO, hb⟩
 replace q0 := (hb.cell (p := ⟨w.heap.size, 0, none⟩) hs0).trans q0
 replace q1 := (hb.cell (p := ⟨w.heap.size, 1, none⟩) hs0).trans q1
 replace f0 := (hb.frozen (p := ⟨w.heap.size, 0, none⟩) hs0).trans f0
 replace f1 := (hb.frozen (p := ⟨w.heap.size, 1, none⟩) hs0).trans f1
 have hR1 := hR0.below hb nl
 have hs1 : w.heap.size < w1.heap.size := Nat.lt_of_lt_of_le hs0 hb.size
 have hB1 : Below w.heap.size w w1 := hB0.trans (hb.mono (by simp))
 replace hO : OSt w1 (w.heap.size + 1) w1.heap.size A zx D Ye := hO.mono (by simp) nl
 clear hb hB0 hs0 hR0
 obtain ⟨W2, hW2⟩ : ∃ W, W = (w1.alloc (.cells #[.slice A 4 c, .slice D 6 6] 28)).alloc (.cells #[] 33) := ⟨_, rfl⟩
 have hBW : Below w1.heap.size w1 W2 := by rw [hW2]; (repeat (first | (with_reducible exact Below.refl _ _) | (with_reducible assumption) | (refine Below.setCell ?_ (by first | omega | exact hB.size | exact hb.size | (have h := hB.size; simp; omega) | (have h := hb.size; simp; omega) | (simp; omega) | simp) _) | (refine Below.alloc ?_ (by first | omega | exact hB.size | exact hb.size | (have h := hB.size; simp; omega) | (have h := hb.size; simp; omega) | (simp; omega) | simp) _) | (refine Below.drew ?_)))
 have hM := (Row.new w1 #[.slice A 4 c, .slice D 6 6] 28).alloc (.cells #[] 33)
 rw [← hW2] at hM
 obtain ⟨b0, b2⟩ := hM.at0 (j := 0) rfl
 obtain ⟨b1, b3⟩ := hM.at0 (j := 1) rfl
 have hE : OwnE W2 (w1.heap.size + 1) (.slice (some ⟨w1.heap.size + 1, 0, none⟩) 0 0) [] := by
  have := OwnE.nil (w1.alloc (.cells #[.slice A 4 c, .slice D 6 6] 28)) (w1.heap.size + 1) (by simp)
  simp only [World.size_alloc] at this
  rw [hW2]; exact this
 replace q0 := (hBW.cell (p := ⟨w.heap.size, 0, none⟩) hs1).trans q0
 replace q1 := (hBW.cell (p := ⟨w.heap.size, 1, none⟩) hs1).trans q1
 replace f0 := (hBW.frozen (p := ⟨w.heap.size, 0, none⟩) hs1).trans f0
 replace f1 := (hBW.frozen (p := ⟨w.heap.size, 1, none⟩) hs1).trans f1
 have hR2 := hR1.below hBW nl
 have hO2 := hO.below hBW nl
 have hs2 : w1.heap.size < W2.heap.size := by rw [hW2]; simp; omega
 have hA2 : Agr (· = R) w W2 := Agr.of_below (hB1.trans (hBW.mono (by omega)))
 have HW2 := Lib.hid hW2
 clear hBW hM hW2 hR1 hO hB1
 go_wp2_with fail
 rw [← HW2.out]
 refine (zq 58 58 B R m _ rfl (by omega) (by omega) (by omega) hR2).mono ?_
 rintro e w3 ⟨k, rfl, hk, hR3, hA3⟩
 generalize w1.heap.size = n1 at *
 have hRn : R < n1 := by omega
 replace q0 := (hA3.cell (b := w.heap.size) (by omega) (by omega) 0).trans q0
 replace q1 := (hA3.cell (b := w.heap.size) (by omega) (by omega) 1).trans q1
 replace f0 := (hA3.fz (b := w.heap.size) (by omega) (by omega) 0).trans f0
 replace f1 := (hA3.fz (b := w.heap.size) (by omega) (by omega) 1).trans f1
 replace b0 := (hA3.cell (b := n1) (by omega) (by omega) 0).trans b0
 replace b1 := (hA3.cell (b := n1) (by omega) (by omega) 1).trans b1
 replace b2 := (hA3.fz (b := n1) (by omega) (by omega) 0).trans b2
 replace b3 := (hA3.fz (b := n1) (by omega) (by omega) 1).trans b3
 have hO3 : OSt w3 (w.heap.size + 1) n1 A zx D Ye := hO2.keep fun b h1 h2 hl => hA3.block b hl (by omega)
 have hE3 : OwnE w3 (n1 + 1) (.slice (some ⟨n1 + 1, 0, none⟩) 0 0) [] := hE.agr hA3 (by intro b h1 h2; omega)
 have hs3 : n1 < w3.heap.size := Nat.lt_of_lt_of_le hs2 hA3.size
 have hA3' := hA2.trans hA3 (fun _ _ h => h)
 clear hA3 hA2 hs2 hO2 hE hR2
 go_wp2
 go_loopw [5, 6] (fun t5 t6 wr => ∃ (j p : Nat) (xs : List Ev) (s : St), t6 = .int .i64 j ∧ j ≤ 57 ∧ xs.length + j ≤ 58 ∧ p + 7 * j ≤ m + 400 ∧ OwnE wr (n1 + 1) t5 xs ∧ Hid (∀ x ∈ xs, zar x) ∧ Hid (xy s) ∧
  OSt wr (w.heap.size + 1) n1 A s.flash D s.disk ∧ Rd wr B R p ∧ Agr (· = R) w wr ∧ n1 < wr.heap.size ∧
  (wr.cell? ⟨n1, 0, none⟩ = some (.slice A 4 c) ∧ wr.cell? ⟨n1, 1, none⟩ = some (.slice D 6 6) ∧ wr.frozen? ⟨n1, 0, none⟩ = false ∧ wr.frozen? ⟨n1, 1, none⟩ = false) ∧
  (wr.cell? ⟨w.heap.size, 0, none⟩ = some (.slice none 0 0) ∧ wr.cell? ⟨w.heap.size, 1, none⟩ = some (.slice none 0 0) ∧ wr.frozen? ⟨w.heap.size, 0, none⟩ = false ∧ wr.frozen? ⟨w.heap.size, 1, none⟩ = false)) (fun _ t6 _ => (intOf t6).toNat)
 case atStart => exact ⟨k, m + 1, [], ⟨zx, Ye⟩, rfl, by omega, by simp; omega, by omega, hE3, Lib.hid (by simp), Lib.hid zng, hO3, hR3, hA3', hs3, ⟨b0, b1, b2, b3⟩, ⟨q0, q1, f0, f1⟩⟩
 case round =>
  clear b0 b1 b2 b3 q0 q1 f0 f1
  obtain ⟨j, p, xs, s, rfl, hj, hxl, hp, hEk, hXs, hst, hOk, hRk, hAk, hsk, ⟨b0, b1, b2, b3⟩, ⟨q0, q1, f0, f1⟩⟩ := hrel
  by_cases hj0 : 0 < j
  . have hj1 : (0 : Int) < j := by omega
    go_wp2_with fail
    refine (Jb B R p _ (by omega) hRk).mono ?_
    rintro e w4 ⟨x, rfl, hx, hR4, hA4⟩
    have hs4 : n1 < w4.heap.size := Nat.lt_of_lt_of_le hsk hA4.size
    have hO4 : OSt w4 (w.heap.size + 1) n1 A s.flash D s.disk := hOk.keep fun b h1 h2 hl => hA4.block b hl (by omega)
    have hE4 : OwnE w4 (n1 + 1) u5 xs := hEk.agr hA4 (by intro b h1 h2; omega)
    have hA4' := hAk.trans hA4 (fun _ _ h => h)
    replace q0 := (hA4.cell (b := w.heap.size) (by omega) (by omega) 0).trans q0
    replace q1 := (hA4.cell (b := w.heap.size) (by omega) (by omega) 1).trans q1
    replace f0 := (hA4.fz (b := w.heap.size) (by omega) (by omega) 0).trans f0
    replace f1 := (hA4.fz (b := w.heap.size) (by omega) (by omega) 1).trans f1
    replace b0 := (hA4.cell (b := n1) (by omega) (by omega) 0).trans b0
    replace b1 := (hA4.cell (b := n1) (by omega) (by omega) 1).trans b1
    replace b2 := (hA4.fz (b := n1) (by omega) (by omega) 0).trans b2
    replace b3 := (hA4.fz (b := n1) (by omega) (by omega) 1).trans b3
    have hQ : ∀ q, u5.ownBlock = some q -> n1 + 1 ≤ q ∧ q < w4.heap.size := fun q e => World.ownsRow.lt hE4 q e
    have hE6 : OwnE ((w4.alloc (.cells #[.int .i64 x.kind, .int .i64 x.a, .int .i64 x.b, .int .i64 x.c, .bool x.torn] 33)).alloc (.cells #[.int .i64 x.kind, .int .i64 x.a, .int .i64 x.b, .int .i64 x.c, .bool x.torn] 33)) (n1 + 1) u5 xs := (hE4.alloc _).alloc _
    have hx4 := (Row.new w4 #[.int .i64 x.kind, .int .i64 x.a, .int .i64 x.b, .int .i64 x.c, .bool x.torn] 33).alloc (.cells #[.int .i64 x.kind, .int .i64 x.a, .int .i64 x.b, .int .i64 x.c, .bool x.torn] 33)
    obtain ⟨x0, y0⟩ := hx4.at0 (j := 0) rfl
    obtain ⟨x1, y1⟩ := hx4.at0 (j := 1) rfl
    obtain ⟨x2, y2⟩ := hx4.at0 (j := 2) rfl
    obtain ⟨x3, y3⟩ := hx4.at0 (j := 3) rfl
    obtain ⟨x4, y4⟩ := hx4.at0 (j := 4) rfl
    have hAa : Agr (fun b => n1 + 1 ≤ b) w4 ((w4.alloc (.cells #[.int .i64 x.kind, .int .i64 x.a, .int .i64 x.b, .int .i64 x.c, .bool x.torn] 33)).alloc (.cells #[.int .i64 x.kind, .int .i64 x.a, .int .i64 x.b, .int .i64 x.c, .bool x.torn] 33)) := ((Agr.refl _ _).alloc _).alloc _
    have hs6 : ((w4.alloc (.cells #[.int .i64 x.kind, .int .i64 x.a, .int .i64 x.b, .int .i64 x.c, .bool x.torn] 33)).alloc (.cells #[.int .i64 x.kind, .int .i64 x.a, .int .i64 x.b, .int .i64 x.c, .bool x.torn] 33)).heap.size = w4.heap.size + 1 + 1 := by simp
    have hrow := Row.new (w4.alloc (.cells #[.int .i64 x.kind, .int .i64 x.a, .int .i64 x.b, .int .i64 x.c, .bool x.torn] 33)) #[.int .i64 x.kind, .int .i64 x.a, .int .i64 x.b, .int .i64 x.c, .bool x.torn] 33
    simp only [World.size_alloc] at hrow
    have hnews : ∀ j u, x.vs[j]? = some u -> ((w4.alloc (.cells #[.int .i64 x.kind, .int .i64 x.a, .int .i64 x.b, .int .i64 x.c, .bool x.torn] 33)).alloc (.cells #[.int .i64 x.kind, .int .i64 x.a, .int .i64 x.b, .int .i64 x.c, .bool x.torn] 33)).cell? ((⟨w4.heap.size + 1, 0, none⟩ : Addr).add j) = some u := hrow.news
    clear hE4 hA4 hEk hOk hRk hAk hx4 hrow
    have hBa : Below w4.heap.size w4 ((w4.alloc (.cells #[.int .i64 x.kind, .int .i64 x.a, .int .i64 x.b, .int .i64 x.c, .bool x.torn] 33)).alloc (.cells #[.int .i64 x.kind, .int .i64 x.a, .int .i64 x.b, .int .i64 x.c, .bool x.torn] 33)) := bw
    have Qq0 := (hBa.cell (p := ⟨w.heap.size, 0, none⟩) (by show w.heap.size < w4.heap.size; omega)).trans q0
    have Qq1 := (hBa.cell (p := ⟨w.heap.size, 1, none⟩) (by show w.heap.size < w4.heap.size; omega)).trans q1
    have Qf0 := (hBa.frozen (p := ⟨w.heap.size, 0, none⟩) (by show w.heap.size < w4.heap.size; omega)).trans f0
    have Qf1 := (hBa.frozen (p := ⟨w.heap.size, 1, none⟩) (by show w.heap.size < w4.heap.size; omega)).trans f1
    have Qb0 := (hBa.cell (p := ⟨n1, 0, none⟩) (by show n1 < w4.heap.size; omega)).trans b0
    have Qb1 := (hBa.cell (p := ⟨n1, 1, none⟩) (by show n1 < w4.heap.size; omega)).trans b1
    have Qb2 := (hBa.frozen (p := ⟨n1, 0, none⟩) (by show n1 < w4.heap.size; omega)).trans b2
    have Qb3 := (hBa.frozen (p := ⟨n1, 1, none⟩) (by show n1 < w4.heap.size; omega)).trans b3
    go_wp2_with (at_builtin; refine wpList_append_lies _ rfl (.tmp 18) (.tmp 20) _ rfl (n1 + 1) 33 ib _ 5 40 Tryz.underlying23 hib hbz0 hbz1 hbz2 rfl (by omega) u5 xs.length (evs xs) rfl hE6 ⟨w4.heap.size + 1, 0, none⟩ 1 1 x.vs rfl rfl hnews (by simp [Value.oneCell', Ev.vs]) (by omega) (by unfold maxLen; omega) (by omega) (by simp; omega) (w4.heap.size + 1 + 1) (by simp) ?_; intro g2 c2 w7 hown2 hgrow2 hat2 hlt2; have hAg := (Agr.refl (fun b => u5.ownBlock = some b) _).grown hgrow2 (fun g hg => .inr hg); have zq0 := (hAg.cell (b := w.heap.size) (by omega) (fun e => by have := hQ _ e; omega) 0).trans Qq0; have zq1 := (hAg.cell (b := w.heap.size) (by omega) (fun e => by have := hQ _ e; omega) 1).trans Qq1; have zf0 := (hAg.fz (b := w.heap.size) (by omega) (fun e => by have := hQ _ e; omega) 0).trans Qf0; have zf1 := (hAg.fz (b := w.heap.size) (by omega) (fun e => by have := hQ _ e; omega) 1).trans Qf1; have zb0 := (hAg.cell (b := n1) (by omega) (fun e => by have := hQ _ e; omega) 0).trans Qb0; have zb1 := (hAg.cell (b := n1) (by omega) (fun e => by have := hQ _ e; omega) 1).trans Qb1; have zb2 := (hAg.fz (b := n1) (by omega) (fun e => by have := hQ _ e; omega) 0).trans Qb2; have zb3 := (hAg.fz (b := n1) (by omega) (fun e => by have := hQ _ e; omega) 1).trans Qb3; have zx0 := (hAg.cell (b := w4.heap.size) (by omega) (fun e => by have := hQ _ e; omega) 0).trans x0; have zx1 := (hAg.cell (b := w4.heap.size) (by omega) (fun e => by have := hQ _ e; omega) 1).trans x1; have zx2 := (hAg.cell (b := w4.heap.size) (by omega) (fun e => by have := hQ _ e; omega) 2).trans x2; have zx3 := (hAg.cell (b := w4.heap.size) (by omega) (fun e => by have := hQ _ e; omega) 3).trans x3; have zx4 := (hAg.cell (b := w4.heap.size) (by omega) (fun e => by have := hQ _ e; omega) 4).trans x4; clear b0 b1 b2 b3 q0 q1 f0 f1 x0 x1 x2 x3 x4 y0 y1 y2 y3 y4)
    have hAll : Agr (fun b => n1 + 1 ≤ b) w4 w7 := hAa.trans hAg (fun b _ h => (hQ _ h).1)
    have hO7 : OSt w7 (w.heap.size + 1) n1 A s.flash D s.disk := hO4.keep fun b h1 h2 hl => hAll.block b hl (by omega)
    have hR7 : Rd w7 B R (p + 7) := hR4.agr hAll (by omega) (fun b hb e => by have := hR4.le; omega)
    have hA7 : Agr (· = R) w w7 := hA4'.trans hAll (fun b hb e => by omega)
    have hs7 : n1 < w7.heap.size := Nat.lt_of_lt_of_le hs4 hAll.size
    have hE7 : OwnE w7 (n1 + 1) (.slice (some ⟨g2, 0, none⟩) (xs.length + 1) c2) (xs ++ [x]) := OwnE.snoc rfl hown2
    clear hAa hAg hAll hO4 hR4 hA4' hQ hE6 hnews hBa Qq0 Qq1 Qf0 Qf1 Qb0 Qb1 Qb2 Qb3 hown2 hgrow2 hat2 hs6
    refine (zbj s x A D c 6 (w.heap.size + 1) n1 _ hst.out (by omega) hO7).mono ?_
    rintro e w8 ⟨rfl, hO8, hA8⟩
    have hst8 := Lib.hid (zmg hst.out x)
    generalize doEv s x = s8 at *
    replace zq0 := (hA8.cell (b := w.heap.size) (by omega) (by omega) 0).trans zq0
    replace zq1 := (hA8.cell (b := w.heap.size) (by omega) (by omega) 1).trans zq1
    replace zf0 := (hA8.fz (b := w.heap.size) (by omega) (by omega) 0).trans zf0
    replace zf1 := (hA8.fz (b := w.heap.size) (by omega) (by omega) 1).trans zf1
    replace zb0 := (hA8.cell (b := n1) (by omega) (by omega) 0).trans zb0
    replace zb1 := (hA8.cell (b := n1) (by omega) (by omega) 1).trans zb1
    replace zb2 := (hA8.fz (b := n1) (by omega) (by omega) 0).trans zb2
    replace zb3 := (hA8.fz (b := n1) (by omega) (by omega) 1).trans zb3
    have hR8 : Rd w8 B R (p + 7) := hR7.agr hA8 (by omega) (fun b hb e => by have := hR7.le; omega)
    have hE8 : OwnE w8 (n1 + 1) (.slice (some ⟨g2, 0, none⟩) (xs.length + 1) c2) (xs ++ [x]) := hE7.agr hA8 (by intro b h1 h2; omega)
    have hAw8 : Agr (· = R) w w8 := hA7.trans hA8 (fun b hb e => by omega)
    have hs8 : n1 < w8.heap.size := Nat.lt_of_lt_of_le hs7 hA8.size
    clear hO7 hR7 hE7 hA7 hA8 hs7 zx0 zx1 zx2 zx3 zx4
    have hW : xr w8 ((w8.setCell ⟨n1, 0, none⟩ (.slice A 4 c)).setCell ⟨n1, 1, none⟩ (.slice D 6 6)) n1 0 [.slice A 4 c, .slice D 6 6] := zn n1 [.slice A 4 c, .slice D 6 6] 0 w8 (fun j hj => by
     match j, hj with
     | 0, _ => exact ⟨_, zb0⟩
     | 1, _ => exact ⟨_, zb1⟩)
    have hO9 : OSt _ (w.heap.size + 1) n1 A s8.flash D s8.disk := hO8.keep fun b h1 h2 _ => hW.block b (by omega)
    have hR9 : Rd _ B R (p + 7) := hR8.agr hW.agr (by omega) (fun b hb e => by have := hR8.le; omega)
    have hE9 : OwnE _ (n1 + 1) (.slice (some ⟨g2, 0, none⟩) (xs.length + 1) c2) (xs ++ [x]) := hE8.agr hW.agr (by intro b h1 h2; omega)
    have hA9 : Agr (· = R) w _ := hAw8.trans (S' := (· = n1)) hW.agr (fun b hb e => by omega)
    have t0 := hW.new_ 0 _ rfl
    have t1 := hW.new_ 1 _ rfl
    have t2 := (hW.frozen ⟨n1, 0, none⟩).trans zb2
    have t3 := (hW.frozen ⟨n1, 1, none⟩).trans zb3
    have s0 := (hW.agr.cell (b := w.heap.size) (by omega) (by omega) 0).trans zq0
    have s1 := (hW.agr.cell (b := w.heap.size) (by omega) (by omega) 1).trans zq1
    have s2 := (hW.frozen ⟨w.heap.size, 0, none⟩).trans zf0
    have s3 := (hW.frozen ⟨w.heap.size, 1, none⟩).trans zf1
    have hss := hW.size
    have hXs2 := Lib.hid (show ∀ y ∈ xs ++ [x], zar y from fun y hy => by
     rcases List.mem_append.1 hy with hy | hy
     . exact hXs.out y hy
     . rw [List.mem_singleton] at hy; subst hy; exact hx)
    have hxl2 : (xs ++ [x]).length + (j - 1) ≤ 58 := by rw [List.length_append]; simp only [List.length_cons, List.length_nil]; omega
    have e1 : IntKind.i64.wrap ((j : Int) - 1) = (j : Int) - 1 := IntWalk.i64_in _ (by omega)
    have e2 : ((j - 1 : Nat) : Int) = (j : Int) - 1 := by omega
    clear hW hO8 hR8 hE8 hAw8 hXs
    have E2 := Lib.hid e2
    clear e2
    go_wp2
    go_roundw
    (case rel => exact ⟨j - 1, p + 7, xs ++ [x], s8, by rw [E2.out], by omega, hxl2, by omega, hE9, hXs2, hst8, hO9, hR9, hA9, by omega, ⟨t0, t1, t2, t3⟩, ⟨s0, s1, s2, s3⟩⟩)
    (case measure => simp [intOf]; omega)
  . obtain rfl : j = 0 := by omega
    go_wp2
    have d0 : wr.drew.cell? ⟨n1, 0, none⟩ = some (.slice A 4 c) := b0
    have d1 : wr.drew.cell? ⟨n1, 1, none⟩ = some (.slice D 6 6) := b1
    have d2 : wr.drew.cell? ⟨w.heap.size, 0, none⟩ = some (.slice none 0 0) := q0
    have d3 : wr.drew.cell? ⟨w.heap.size, 1, none⟩ = some (.slice none 0 0) := q1
    go_region
    all_goals
     go_wp2
     have hF : Agr (· = w.heap.size) wr ((wr.setCell ⟨w.heap.size, 0, none⟩ (.slice A 4 c)).setCell ⟨w.heap.size, 1, none⟩ (.slice D 6 6)).drew := Agr.drew (Agr.setCell (S := fun b => b = w.heap.size) (Agr.setCell (S := fun b => b = w.heap.size) (Agr.refl _ _) (p := ⟨w.heap.size, 0, none⟩) (.inr rfl) _) (p := ⟨w.heap.size, 1, none⟩) (.inr rfl) _)
     refine bodyPost_ret (v := .tuple #[u5, .agg #[.slice A 4 c, .slice D 6 6]]) (by simp [results, Tryz.results21, go_sem, q0, q1]) rfl ⟨u5, A, D, c, w.heap.size + 1, n1, s, xs, rfl, by omega, ?_, hc, ?_, hst.out, ?_, by omega, hXs.out, ?_, ?_⟩
     . have := hF.size; omega
     . exact hOk.keep fun b h1 h2 hl => hF.block b hl (by omega)
     . exact (hEk.agr hF (by intro b h1 h2; omega)).mono (by omega)
     . exact (hRk.agr hF (by omega) (fun b hb e => by have := hRk.le; omega)).mono (by omega)
     . exact hAk.trans hF (fun b hb e => by omega)
end
section
open Go.RowKit Go.Maps
theorem Row.drop {w : World} {b o : Nat} {vs : List Value} (h : Row w (some ⟨b, o, none⟩) vs) (k : Nat) : Row w (some ⟨b, o + k, none⟩) (vs.drop k) := fun hn => by
 obtain ⟨b', o', he, hc⟩ := h (by rintro rfl; simp at hn)
 cases he
 refine ⟨b, o + k, rfl, fun j u hj => ?_⟩
 rw [List.getElem?_drop] at hj
 have := hc (k + j) u hj
 rwa [← Nat.add_assoc] at this
theorem Bks.tail {w : World} {g o : Nat} {b : Bk} {f : List Bk} {x : Option Addr × Nat} {hs : List (Option Addr × Nat)} (h : Bks w (some ⟨g, o, none⟩) (b :: f) (x :: hs)) : Bks w (some ⟨g, o + 2, none⟩) f hs :=
 ⟨by simpa using h.len, by have := h.row.drop 2; simpa [hdrs] using this, fun i c y hc hy => h.pg (i + 1) c y (by simpa using hc) (by simpa using hy)⟩
theorem Apt.tail {lo hi g o o' : Nat} {x : Option Addr × Nat} {hs : List (Option Addr × Nat)} (h : Apt lo hi (some ⟨g, o, none⟩) (x :: hs)) : Apt lo hi (some ⟨g, o', none⟩) hs :=
 ⟨fun b hb => h.top b (by rw [zg] at hb ⊢; exact hb), fun i y b hy hb => by
  have := h.in_ (i + 1) y b (by simpa using hy) hb
  exact ⟨this.1, this.2.1, fun e => this.2.2 (by rw [zg] at e ⊢; exact e)⟩, fun i j y z b hy hz h1 h2 => by
  have := h.two (i + 1) (j + 1) y z b (by simpa using hy) (by simpa using hz) h1 h2
  omega⟩
theorem Apt.same {lo hi i : Nat} {A : Option Addr} {hs : List (Option Addr × Nat)} {x y : Option Addr × Nat} (h : Apt lo hi A hs) (hy : hs[i]? = some y) (hx : ∀ b, blk x.1 b -> blk y.1 b) : Apt lo hi A (hs.set i x) := by
 have hl := (List.getElem?_eq_some_iff.1 hy).1
 have key : ∀ (j : Nat) (z : Option Addr × Nat) (b : Nat), (hs.set i x)[j]? = some z -> blk z.1 b -> ∃ z', hs[j]? = some z' ∧ blk z'.1 b := fun j z b hz hb => by
  by_cases hj : j = i
  . subst hj
    rw [List.getElem?_set_self hl] at hz
    cases hz
    exact ⟨y, hy, hx b hb⟩
  . rw [List.getElem?_set_ne (by omega)] at hz
    exact ⟨z, hz, hb⟩
 refine ⟨h.top, fun j z b hz hb => ?_, fun j m z u b hz hu h1 h2 => ?_⟩
 . obtain ⟨z', a1, a2⟩ := key j z b hz hb
   exact h.in_ j z' b a1 a2
 . obtain ⟨z', a1, a2⟩ := key j z b hz h1
   obtain ⟨u', b1, b2⟩ := key m u b hu h2
   exact h.two j m z' u' b a1 b1 a2 b2
theorem Bks.pick {w : World} {g o k : Nat} {f : List Bk} {hs : List (Option Addr × Nat)} (h : Bks w (some ⟨g, o, none⟩) f hs) (hl : f.length = 4) (hp : ∀ b ∈ f, b.pages.length = 4) (hk : k < 4) :
 ∃ b pb po cap, f[k]? = some b ∧ hs[k]? = some (some ⟨pb, po, none⟩, cap) ∧ b.pages.length = 4 ∧ 4 ≤ cap ∧ w.cell? ⟨g, o + k * 2, none⟩ = some (.slice (some ⟨pb, po, none⟩) 4 cap) ∧ w.cell? ⟨g, o + k * 2 + 1, none⟩ = some (.int .i64 b.worn) ∧
   w.frozen? ⟨g, o + k * 2, none⟩ = false ∧ w.frozen? ⟨g, o + k * 2 + 1, none⟩ = false ∧ Row w (some ⟨pb, po, none⟩) (pgs b.pages) := by
 obtain ⟨b, hb⟩ := zd (l := f) (k := k) (by omega)
 have hb4 := hp b (List.mem_of_getElem? hb)
 obtain ⟨⟨X, cap⟩, hx, c0, c1, f0, f1, hr, hc⟩ := h.at_ hb
 dsimp only at hr hc c0
 obtain ⟨pb, po, rfl⟩ := hr.addr (kq (by intro e; rw [e] at hb4; simp at hb4))
 rw [hb4] at c0 hc
 exact ⟨b, pb, po, cap, hb, hx, hb4, hc, c0, c1, f0, f1, hr⟩
end
section
open Go.RowKit Go.Maps
structure Code (w : World) (A : Option Addr) (bs : List Nat) (c : Nat) : Prop where
 len : bs.length ≤ c
 cap : c ≤ 9223372036854775807
 byte : ∀ b ∈ bs, b < 256
 row : RRow w A (bytes bs)
end
section
open Go.RowKit Go.Maps
def loS (a : Int) (b : Bk) : Int := if b.worn < a then b.worn else a
def hiS (a : Int) (b : Bk) : Int := if a < b.worn then b.worn else a
end
section
open Go.RowKit Go.Maps
end
section
open Go.RowKit Go.Maps
end
section
open Go.RowKit Go.Maps
theorem zj8 {f : List Bk} {i : Nat} {b : Bk} (h : f[i]? = some b) (t : Bool) : (wipe f i t)[i]? = some ⟨List.replicate 4 (if t then ⟨2, rc0⟩ else pg0), b.worn + 1⟩ := by
 rw [zoy (List.getElem?_eq_some_iff.1 h).1 t, List.getD_eq_getElem?_getD, h]; rfl
theorem ye {f : List Bk} {i : Nat} {b : Bk} (h : f[i]? = some b) : f.getD i zbk = b := by rw [List.getD_eq_getElem?_getD, h]; rfl
end
section
open Go.RowKit Go.Shelf
attribute [local go_sem] Oper.semAt_some
abbrev PgAt := Nat × Nat × Pg
def km (i : Nat) : Nat -> List Pg -> List PgAt
 | _, [] => []
 | j, p :: ps => (i, j, p) :: km i (j + 1) ps
def zj : Nat -> List Bk -> List PgAt
 | _, [] => []
 | i, b :: f => km i 0 b.pages ++ zj (i + 1) f
def encP (x : PgAt) : Array Value := #[.agg #[.int .i64 (x.1 : Int), .int .i64 (x.2.1 : Int)], .agg #[.int .i64 x.2.2.state, .int .i64 x.2.2.rc.kind, .int .i64 x.2.2.rc.seq, .int .i64 x.2.2.rc.addr, .int .i64 x.2.2.rc.val]]
theorem zob {f : List Bk} {k : Nat} {B : Bk} (h : f[k]? = some B) : zj k (f.drop k) = km k 0 (B.pages.drop 0) ++ zj (k + 1) (f.drop (k + 1)) := by rw [zu h]; rfl
theorem zm4 {ps : List Pg} {i m : Nat} {p : Pg} (h : ps[m]? = some p) : km i m (ps.drop m) = (i, m, p) :: km i (m + 1) (ps.drop (m + 1)) := by rw [zu h]; rfl
theorem X4 (F : Fence) (n : Nat) (hF : F.fn 73) (hro : F.round = none) (hn : 1 ≤ n) (l Bs n₀ g o c : Nat) (f : List Bk) (hs : List (Option Addr × Nat)) (J Jx : List PgAt -> World -> Prop)
 (W : World) (hn₀ : n₀ ≤ W.heap.size) (hJ : AbidesFrom W.heap.size J)
 (hY : ∀ pre (x : PgAt) W1, J pre W1 -> pre.length < (zj 0 f).length -> x.1 < f.length ∧ x ∈ zj 0 f -> YieldAt F (n - 1) Tryz.prog l (encP x) W1 fun e W' =>
  (e = .returned (.bool true) ∧ J (pre ++ [x]) W' ∧ Below n₀ W1 W') ∨ (e = .returned (.bool false) ∧ Jx (pre ++ [x]) W'))
 (hBs : W.cell? ⟨Bs, 0, none⟩ = some (.slice (some ⟨g, o, none⟩) f.length c)) (hl : f.length < 1000000000000) (hp : ∀ b ∈ f, b.pages.length < 1000000000000)
 (hBk : Bks W (some ⟨g, o, none⟩) f hs) (hlow : ∀ b, fblk (some ⟨g, o, none⟩) hs b -> b < n₀) (h0 : J [] W) :
 CallsIn F n Tryz.prog 73 #[.func (.yield l) #[] #[], .pointer (some ⟨Bs, 0, none⟩)] W fun e W' => (∃ v, e = .returned v) ∧
  ((∃ ys, ys = zj 0 f ∧ J ys W') ∨ (∃ pre, pre <+: zj 0 f ∧ Jx pre W')) := by
 have HP := Lib.hid hp
 have HLOW := Lib.hid hlow
 have hT0 : Hid (zj 0 f = [] ++ zj 0 (f.drop 0)) := rfl
 have hJa : ∀ pre (V : World) (o : Obj), J pre V -> J pre (V.alloc o) := fun pre V o h => hJ pre V _ none h (World.grownBy_alloc V o none) (fun r e => by cases e)
 have HJA := Lib.hid hJa
 clear hp hlow hJa hJ
 refine callsIn_of_wp Tryz.func73 rfl hF ?_ hro
 simp only [Tryz.ntmps73, List.size_toArray, List.length_cons, List.length_nil, Nat.reduceAdd, Nat.reduceSub, Array.replicate_succ, Array.replicate_zero, List.push_toArray, List.append_toArray, List.nil_append, List.cons_append]
 gi_wp2
 gi_loopw [9] (fun i wr => ∃ (k : Nat) (pre : List PgAt), k ≤ f.length ∧ i = .int .i64 k ∧ J pre wr ∧ Below n₀ W wr ∧ Hid (zj 0 f = pre ++ zj k (f.drop k)))
  (fun i _ => f.length - (intOf i).toNat)
 case atStart => exact ⟨0, [], Nat.zero_le _, rfl, h0, Below.refl _ _, hT0⟩
 case round =>
  clear hT0
  obtain ⟨k, pre, hk, rfl, hJs, hB, hT⟩ := hrel
  by_cases hlt : k < f.length
  . obtain ⟨B, hb⟩ := zd hlt
    have hBkr : Bks wr (some ⟨g, o, none⟩) f hs := hBk.keep fun q hq hl => hB.block q (HLOW.out q (by
     rcases hq with hq | ⟨x, hx, hq⟩
     . exact .inl hq
     . obtain ⟨i, hi⟩ := List.getElem?_of_mem hx
       exact .inr ⟨i, x, hi, hq⟩))
    obtain ⟨⟨Ap, cp⟩, _, z0, z1, _, _, _, _⟩ := hBkr.at_ hb
    have hT1 : Hid (zj 0 f = pre ++ (km k 0 (B.pages.drop 0) ++ zj (k + 1) (f.drop (k + 1)))) := by rw [Hid, hT.out, zob hb]
    have hpl := HP.out B (List.mem_of_getElem? hb)
    have hk1 : (k : Int) < f.length := by omega
    have HB := Lib.hid hb
    have hJb := HJA.out pre wr (.cells #[.slice Ap B.pages.length cp, .int .i64 B.worn] 99) hJs
    have hBb : Below n₀ W (wr.alloc (.cells #[.slice Ap B.pages.length cp, .int .i64 B.worn] 99)) := hB.alloc (by have := hB.size; omega) _
    dsimp only at *
    clear hb hBkr hT
    gi_wp2
    gi_loopw [17] (fun j wl => ∃ (m : Nat) (pre2 : List PgAt), m ≤ B.pages.length ∧ j = .int .i64 m ∧ J pre2 wl ∧ Below n₀ W wl ∧ Hid (zj 0 f = pre2 ++ (km k m (B.pages.drop m) ++ zj (k + 1) (f.drop (k + 1)))))
     (fun j _ => B.pages.length - (intOf j).toNat)
    case atStart => exact ⟨0, pre, Nat.zero_le _, rfl, hJb, hBb, hT1⟩
    case round =>
     clear hT1 hJb hBb z0 z1
     obtain ⟨m, pre2, hm, rfl, hJm, hBm, hTm⟩ := hrel
     by_cases hltm : m < B.pages.length
     . obtain ⟨p, hq⟩ := zd hltm
       have hBkm := hBk.keep (fun q hq hl => hBm.block q (HLOW.out q (by
        rcases hq with hq | ⟨x, hx, hq⟩
        . exact .inl hq
        . obtain ⟨i, hi⟩ := List.getElem?_of_mem hx
          exact .inr ⟨i, x, hi, hq⟩)))
       have hRm := (hBkm.pg k B _ HB.out (by assumption)).1
       obtain ⟨pb, po, rfl⟩ := hRm.addr (kq (by intro e; rw [e] at hltm; simp at hltm))
       obtain ⟨c0, c1, c2, c3, c4⟩ := hRm.pg hq
       have hm1 : (m : Int) < B.pages.length := by omega
       have hJp := HJA.out pre2 _ (.cells #[.int .i64 p.state, .int .i64 p.rc.kind, .int .i64 p.rc.seq, .int .i64 p.rc.addr, .int .i64 p.rc.val] 76) hJm
       have hBp := hBm.alloc (by have := hBm.size; omega) (.cells #[.int .i64 p.state, .int .i64 p.rc.kind, .int .i64 p.rc.seq, .int .i64 p.rc.addr, .int .i64 p.rc.val] 76)
       have hT2 : Hid (zj 0 f = (pre2 ++ [(k, m, p)]) ++ (km k (m + 1) (B.pages.drop (m + 1)) ++ zj (k + 1) (f.drop (k + 1)))) := by
        rw [Hid, hTm.out, zm4 hq, List.append_assoc]; rfl
       have hlen : pre2.length < (zj 0 f).length := by rw [hT2.out, List.length_append, List.length_append]; simp; omega
       obtain ⟨fn, tmps, assign, body, hy, hR⟩ := hY pre2 (k, m, p) _ hJp hlen ⟨hlt, by rw [hT2.out]; simp⟩
       dsimp only [encP] at hy
       clear hq hlen hTm hJm
       gi_wp2
       refine hR.mono ?_
       rintro e W3 (⟨rfl, hJ3, hk3⟩ | ⟨rfl, hJx3⟩)
       . gi_wp2
         go_roundw
         case rel => exact ⟨m + 1, pre2 ++ [(k, m, p)], by omega, by simp, hJ3, hBp.trans hk3, hT2⟩
         case measure => simp [intOf]; omega
       . gi_wp2
         refine bodyPost_ret (results_none rfl _ _ _) rfl ?_
         exact ⟨⟨_, rfl⟩, .inr ⟨_, by rw [hT2.out]; exact List.prefix_append _ _, hJx3⟩⟩
     . obtain rfl : m = B.pages.length := by omega
       have hT3 : Hid (zj 0 f = pre2 ++ zj (k + 1) (f.drop (k + 1))) := by rw [Hid, hTm.out, List.drop_of_length_le nl]; rfl
       gi_wp2
       go_roundw
       case rel => exact ⟨k + 1, pre2, by omega, by simp, hJm, hBm, hT3⟩
       case measure => simp [intOf]; omega
  . obtain rfl : k = f.length := by omega
    have hend : pre = zj 0 f := by rw [hT.out, List.drop_of_length_le nl]; simp [zj]
    clear hT
    gi_wp2
    go_end0
    exact ⟨⟨_, rfl⟩, .inl ⟨_, hend, hJs⟩⟩
end
section
open Go.RowKit Go.Shelf
attribute [local go_sem] Oper.semAt_some
theorem Xd (F : Fence) (n : Nat) (h : F.fn 39) (hro : F.round = none) (a : Option Addr) (len cap : Nat) (w : World) :
 CallsIn F n Tryz.prog 39 #[.slice a len cap] w fun e w' => e = .returned (.func (.func 73) #[] #[.pointer (some ⟨w.heap.size, 0, none⟩)]) ∧ w' = w.alloc (.cells #[.slice a len cap] 25) := by
 refine callsIn_of_wp Tryz.func39 rfl h ?_ hro
 simp only [Tryz.ntmps39, List.size_toArray, List.length_cons, List.length_nil, Nat.reduceAdd, Nat.reduceSub, Array.replicate_succ, Array.replicate_zero, List.push_toArray, List.append_toArray, List.nil_append, List.cons_append]
 gi_wp2
 go_ret
 exact ⟨rfl, rfl⟩
theorem Kn (F : Fence) (n : Nat) (hF : F.fn 73) (hro : F.round = none) (hn : 1 ≤ n) (Bs n₀ g o c : Nat) (f : List Bk) (hs : List (Option Addr × Nat)) (w : World) (hB : Bs < w.heap.size) (hn₀ : n₀ ≤ w.heap.size)
 (hBs : w.cell? ⟨Bs, 0, none⟩ = some (.slice (some ⟨g, o, none⟩) f.length c)) (hl : f.length < 1000000000000) (hp : ∀ b ∈ f, b.pages.length < 1000000000000)
 (hBk : Bks w (some ⟨g, o, none⟩) f hs) (hlow : ∀ b, fblk (some ⟨g, o, none⟩) hs b -> b < n₀) :
 SeqStopsK F n Tryz.prog 73 #[.pointer (some ⟨Bs, 0, none⟩)] encP (Below n₀) (fun ys => ys = zj 0 f) (fun pre => pre <+: zj 0 f) (zj 0 f).length w := fun l J Jx W hW hJ _ hY h0 => by
 refine X4 F n hF hro hn l Bs n₀ g o c f hs J Jx W (Nat.le_trans hn₀ hW.size) hJ (fun pre x W1 h1 h2 _ => hY pre x W1 h1 h2) ((hW.cell (p := ⟨Bs, 0, none⟩) hB).trans hBs) hl hp (hBk.keep fun q hq hl => hW.block q (by omega)) hlow h0
def yp (n : Int) (x : PgAt) : Int := if x.2.2.state = 1 then max n x.2.2.rc.seq else n
def Xl (pre : List PgAt) : Int := pre.foldl yp 0
theorem zcg (pre : List PgAt) (x : PgAt) : Xl (pre ++ [x]) = yp (Xl pre) x := by unfold Xl; rw [List.foldl_append]; rfl
theorem zla {i : Nat} {x : PgAt} : ∀ {ps : List Pg} {j : Nat}, x ∈ km i j ps -> x.2.2 ∈ ps
 | [], _, h => by simp [km] at h
 | p :: ps, j, h => by
   rw [km] at h
   rcases List.mem_cons.1 h with rfl | h
   . exact List.mem_cons_self ..
   . exact List.mem_cons_of_mem _ (zla h)
theorem zgx {x : PgAt} : ∀ {f : List Bk} {i : Nat}, x ∈ zj i f -> ∃ b ∈ f, x.2.2 ∈ b.pages
 | [], _, h => by simp [zj] at h
 | b :: f, i, h => by
   rw [zj] at h
   rcases List.mem_append.1 h with h | h
   . exact ⟨b, List.mem_cons_self .., zla h⟩
   . obtain ⟨c, hc, hx⟩ := zgx h
     exact ⟨c, List.mem_cons_of_mem _ hc, hx⟩
theorem zfq : ∀ {xs : List PgAt} {n : Int}, (∀ x ∈ xs, zp x.2.2 = true) -> 0 ≤ n -> n ≤ 600 -> 0 ≤ xs.foldl yp n ∧ xs.foldl yp n ≤ 600
 | [], n, _, h1, h2 => ⟨h1, h2⟩
 | x :: xs, n, h, h1, h2 => by
   have hx := zbq (h x (List.mem_cons_self ..))
   refine zfq (xs := xs) (n := yp n x) (fun y hy => h y (List.mem_cons_of_mem _ hy)) ?_ ?_
   . unfold yp; split <;> omega
   . unfold yp; split <;> omega
theorem zhj {f : List Bk} (h : zc f = true) : 0 ≤ Xl (zj 0 f) ∧ Xl (zj 0 f) ≤ 600 := by
 refine zfq (fun x hx => ?_) (by omega) (by omega)
 obtain ⟨b, hb, hx⟩ := zgx hx
 have := qg (f := f) (seen := []) (by unfold zc at h; simp at h; exact h.2) b hb
 exact this.2 _ hx
def Laid (W : World) (B : Nat) (t : TypeId) (cs : Array Value) : Prop := W.heap[B]? = some (.cells cs t (0, 0))
theorem Laid.lt {W : World} {B : Nat} {t : TypeId} {cs : Array Value} (h : Laid W B t cs) : B < W.heap.size := (Array.getElem?_eq_some_iff.1 h).1
theorem Laid.cell {W : World} {B : Nat} {t : TypeId} {cs : Array Value} (h : Laid W B t cs) (i : Nat) {u : Value} (hu : cs[i]? = some u) : W.cell? ⟨B, i, none⟩ = some u := by simp [World.cell?, show W.heap[B]? = _ from h, hu]
theorem Ji (B : Nat) (t : TypeId) (cs : Array Value) (n₀ : Nat) : OwnFrom n₀ (fun (_ : Unit) W => Laid W B t cs) := fun _ X Y row hs hg hr =>
 (hg.block B hs.lt (fun e' => by obtain ⟨_, o, ho, hc⟩ := hr B e'.symm; rw [show X.heap[B]? = _ from hs] at ho; cases ho; cases hc)).trans hs
def pgv (p : Pg) : Array Value := #[.int .i64 p.state, .int .i64 p.rc.kind, .int .i64 p.rc.seq, .int .i64 p.rc.addr, .int .i64 p.rc.val]
def Xb (f : List Bk) : Int := if zc f = true then Xl (zj 0 f) + 1 else 0
theorem zde (f : List Bk) (A : Option Addr) (n c : Nat) (w : World) (hn : n = f.length) (hF : Fl w A f) :
 Calls Tryz.prog 15 #[.slice A n c] w fun e w' => e = .returned (.int .i64 (Xb f)) ∧ Below w.heap.size w w' := by
 subst hn
 refine (callsIn_wide (n := 6)).1 ?_
 refine callsIn_of_wp_marks Tryz.func15 rfl trivial ?_ rfl
 simp only [Tryz.ntmps15, List.size_toArray, List.length_cons, List.length_nil, Nat.reduceAdd, Nat.reduceSub, Array.replicate_succ, Array.replicate_zero, List.push_toArray, List.append_toArray, List.nil_append, List.cons_append]
 by_cases hok : zc f = true
 . have hfl := zf hok
   have HFL := Lib.hid hfl
   have hfin : Hid (Xb f = Xl (zj 0 f) + 1) := by unfold Hid Xb; rw [if_pos hok]
   have HP := Lib.hid (show ∀ b ∈ f, b.pages.length < 1000000000000 from fun b hb => by rw [(zm hok b hb).1]; omega)
   obtain ⟨hs, hBk⟩ := hF
   have hFc := Lib.hid (xe f A c w ⟨hs, hBk⟩)
   rw [hok] at hFc
   have hrg := zhj hok
   have HPL := Lib.hid (fun b hb => (zm hok b hb).1)
   clear hfl hok
   gi_wp2_with (first | (refine ⟨trivial, ?_⟩; gi_at_call 29; refine (callsIn_wide.2 hFc.out).mono ?_; rintro e w1 ⟨rfl, hb1⟩) | (refine ⟨trivial, ?_⟩; gi_at_call 39; refine (Xd Fence.wide _ trivial rfl _ _ _ _).mono ?_; rintro e w2 ⟨rfl, rfl⟩))
   obtain ⟨g, o, rfl⟩ := hBk.addr (by intro e; have := HFL.out; rw [e] at this; simp at this)
   have hlow : ∀ b, fblk (some ⟨g, o, none⟩) hs b -> b < w1.heap.size := fun b hb => by
    have h4 := HFL.out
    have hs1 := hb1.size
    rcases hb with hb | ⟨i, x, hx, hb⟩
    . rw [zg] at hb
      subst hb
      obtain ⟨B, hB⟩ := zd (l := f) (k := 0) (by omega)
      obtain ⟨_, _, c0, _⟩ := hBk.at_ hB
      have := ze c0
      omega
    . obtain ⟨B, hB⟩ := zd (l := f) (k := i) (by rw [← hBk.len]; exact (List.getElem?_eq_some_iff.1 hx).1)
      have hr := (hBk.pg i B x hB hx).1
      by_cases hn : B.pages = []
      . have := HPL.out B (List.mem_of_getElem? hB); rw [hn] at this; simp at this
      . obtain ⟨b', o', he, hc⟩ := hr (kq hn)
        rw [he, zg] at hb
        subst hb
        obtain ⟨q, hq⟩ := zd (l := pgs B.pages) (k := 0) (by rw [yz]; have := List.length_pos_iff.2 hn; omega)
        have := ze (hc 0 q hq).1
        omega
   have hBk1 := hBk.below hb1 nl
   have bS := (Boxed.new w1 3 (.int .i64 0)).alloc (.cells #[.slice (some ⟨g, o, none⟩) f.length c] 25)
   have bA := Boxed.new (w1.alloc (.cells #[.int .i64 0] 3)) 25 (.slice (some ⟨g, o, none⟩) f.length c)
   simp only [World.size_alloc] at bA
   have hB0 : Below w1.heap.size w1 ((w1.alloc (.cells #[.int .i64 0] 3)).alloc (.cells #[.slice (some ⟨g, o, none⟩) f.length c] 25)) := ((Below.refl _ w1).alloc nl _).alloc (by simp) _
   have hsz : ((w1.alloc (.cells #[.int .i64 0] 3)).alloc (.cells #[.slice (some ⟨g, o, none⟩) f.length c] 25)).heap.size = w1.heap.size + 2 := by simp
   have hBk2 := (hBk1.alloc (.cells #[.int .i64 0] 3)).alloc (.cells #[.slice (some ⟨g, o, none⟩) f.length c] 25)
   obtain ⟨W0, hW0⟩ : ∃ W0, (w1.alloc (.cells #[.int .i64 0] 3)).alloc (.cells #[.slice (some ⟨g, o, none⟩) f.length c] 25) = W0 := ⟨_, rfl⟩
   rw [hW0] at bS bA hB0 hsz hBk2 ⊢
   have hl4 : f.length < 1000000000000 := by rw [HFL.out]; omega
   clear hW0 hBk hBk1
   refine wpIn_rangeFunc_ownH rfl (by omega) (gf := 73) (lb := #[.pointer (some ⟨w1.heap.size + 1, 0, none⟩)]) rfl trivial (enters_of Tryz.func73 (by kernel_rfl) rfl)
    (Kn Fence.wide _ trivial rfl (by omega) (w1.heap.size + 1) w1.heap.size g o c f hs W0 (by omega) (by omega) bA.cell hl4 HP.out hBk2 hlow) belowK_t (belowK_b (by omega)) (Below.refl _ _) (fun _ => rfl)
    (fun pre W => Boxed W w1.heap.size 3 (.int .i64 (Xl pre)) ∧ Below w1.heap.size w1 W)
    (fun _ _ _ => False)
    (OwnFrom.and (Own.from (boxed_own _ _ _) _) (ownFrom_below nl (by omega)))
    (fun _ _ _ _ _ hs _ _ => hs)
    ⟨bS, hB0⟩
    (fun x a' W => ∃ Bx, w1.heap.size < Bx ∧ Laid W Bx 76 (pgv x.2.2) ∧ a' = { tmps := #[.slice (some ⟨g, o, none⟩) f.length c, undef, .int .i64 0, .pointer (some ⟨w1.heap.size, 0, none⟩), undef, .pointer (some ⟨Bx, 0, none⟩), .slice (some ⟨g, o, none⟩) f.length c, .bool true, .bool false, .slice (some ⟨g, o, none⟩) f.length c, .func (.func 73) #[] #[.pointer (some ⟨w1.heap.size + 1, 0, none⟩)], .agg #[.int .i64 (x.1 : Int), .int .i64 (x.2.1 : Int)], .agg (pgv x.2.2), undef, undef, undef, undef, undef, undef, undef, undef, undef, undef], defers := [] })
    (fun x a' _ X Y row hs hg hr => by obtain ⟨Bx, h1, h2, h3⟩ := hs; exact ⟨Bx, h1, Ji Bx _ _ _ () X Y row h2 hg hr, h3⟩)
    ?assign ?body ?done ?stop
   case assign =>
    rintro l pre x W K ⟨bS1, hB1⟩ hK
    dsimp only [encP]
    gi_wp2
    exact hK _ _ ((KeepsOthers.alloc _ _).from _) ((Below.refl _ W).alloc hB1.size _) ⟨bS1.alloc _, hB1.alloc hB1.size _⟩ ⟨W.heap.size, bS1.lt, World.alloc_heap_new W _, rfl⟩
   case body =>
    rintro l pre x a' W hl ⟨r, hr⟩ ⟨bS1, hB1⟩ ⟨Bx, hBx, bX, rfl⟩ hlt
    have cS := bS1.cell
    have fS := bS1.frozen
    have x0 : W.cell? ⟨Bx, 0, none⟩ = some (.int .i64 x.2.2.state) := bX.cell 0 rfl
    have x1 : W.cell? ⟨Bx, 1, none⟩ = some (.int .i64 x.2.2.rc.kind) := bX.cell 1 rfl
    have x2 : W.cell? ⟨Bx, 2, none⟩ = some (.int .i64 x.2.2.rc.seq) := bX.cell 2 rfl
    have x3 : W.cell? ⟨Bx, 3, none⟩ = some (.int .i64 x.2.2.rc.addr) := bX.cell 3 rfl
    have x4 : W.cell? ⟨Bx, 4, none⟩ = some (.int .i64 x.2.2.rc.val) := bX.cell 4 rfl
    by_cases h1 : x.2.2.state = 1
    . have hst : Hid (Xl (pre ++ [x]) = max (Xl pre) x.2.2.rc.seq) := by rw [Hid, zcg]; unfold yp; rw [if_pos h1]
      rw [h1] at x0
      gi_wp2
      . have hm : max (Xl pre) x.2.2.rc.seq = x.2.2.rc.seq := by omega
        exact ⟨(KeepsOthers.setCell _ _ _).from _, (Below.refl _ W).setCell (p := ⟨w1.heap.size, 0, none⟩) nl _, by rw [hst.out, hm]; exact bS1.set _, hB1.setCell (p := ⟨w1.heap.size, 0, none⟩) nl _⟩
      . have hm : max (Xl pre) x.2.2.rc.seq = Xl pre := by omega
        exact ⟨(KeepsOthers.setCell _ _ _).from _, (Below.refl _ W).setCell (p := ⟨w1.heap.size, 0, none⟩) nl _, by rw [hst.out, hm]; exact bS1.set _, hB1.setCell (p := ⟨w1.heap.size, 0, none⟩) nl _⟩
    . have hst : Hid (Xl (pre ++ [x]) = Xl pre) := by rw [Hid, zcg]; unfold yp; rw [if_neg h1]
      have h1' : (x.2.2.state == 1) = false := by simpa using h1
      gi_wp2
      exact ⟨KeepsFrom.refl _ _, Below.refl _ _, by rw [hst.out]; exact bS1, hB1⟩
   case done =>
    rintro D ys W hD rfl ⟨bS1, hB1⟩ hK
    have cS := bS1.cell
    have hr := hrg
    have e1 : IntKind.i64.wrap (Xl (zj 0 f) + 1) = Xl (zj 0 f) + 1 := IntWalk.i64_in _ (by omega)
    gi_wp2
    refine ⟨by simp, .inl ⟨_, _, rfl, run_takeDeferred hK, ?_⟩⟩
    exact ⟨_, results_tmp rfl _ _ _, by rw [hfin.out]; rfl, hb1.trans ((hB1.trans (belowK_b (w := w1) nl W D _ _ (by omega) hK rfl rfl)).mono hb1.size)⟩
   case stop =>
    rintro D c pre W _ _ h _
    exact h.elim
 . have hok' : zc f = false := by simpa using hok
   have hfin : Hid (Xb f = 0) := by unfold Hid Xb; rw [if_neg hok]
   have hFc := Lib.hid (xe f A c w hF)
   rw [hok'] at hFc
   gi_wp2_with (first | (refine ⟨trivial, ?_⟩; gi_at_call 29; refine (callsIn_wide.2 hFc.out).mono ?_; rintro e w1 ⟨rfl, hb1⟩))
   exact ⟨_, results_tmp rfl _ _ _, by rw [hfin.out]; rfl, hb1⟩
end
section
open Go.RowKit Go.Maps
theorem Jn {f : List Bk} (h : zc f = true) : Zv f := by
 have h2 := qg (f := f) (seen := []) (by unfold zc at h; simp at h; exact h.2)
 exact ⟨zf h, fun b hb => ⟨(zm h b hb).1, (zm h b hb).2.1, (zm h b hb).2.2, (h2 b hb).2⟩⟩
theorem zbt : ∀ (ps : List Pg) (n m : Int), jk (max n m) ps = max n (jk m ps)
 | [], _, _ => rfl
 | p :: ps, n, m => by
   show jk (max (max n m) p.rc.seq) ps = max n (jk (max m p.rc.seq) ps)
   rw [show max (max n m) p.rc.seq = max n (max m p.rc.seq) by omega]
   exact zbt ps n _
theorem Jq {p : Pg} (h : zp p = true) (h1 : p.state ≠ 1) : p.rc.seq = 0 := by
 unfold zp at h
 rw [if_neg h1] at h
 split at h
 . have : p.rc = rc0 := by simpa using h
   rw [this]; rfl
 . cases h
theorem zhr : ∀ (ps : List Pg) (i j : Nat) (n : Int), (∀ p ∈ ps, zp p = true) -> 0 ≤ n -> (km i j ps).foldl yp n = jk n ps ∧ 0 ≤ jk n ps
 | [], _, _, _, _, h => ⟨rfl, h⟩
 | p :: ps, i, j, n, hp, h => by
   have hs : yp n (i, j, p) = max n p.rc.seq := by
    unfold yp
    dsimp only
    split
    . rfl
    . rename_i h1
      have := Jq (hp p (List.mem_cons_self ..)) h1
      omega
   have ih := zhr ps i (j + 1) (max n p.rc.seq) (fun q hq => hp q (List.mem_cons_of_mem _ hq)) (by omega)
   rw [km, List.foldl_cons, hs]
   exact ih
theorem zir : ∀ (f : List Bk) (i : Nat) (n : Int), (∀ b ∈ f, ∀ p ∈ b.pages, zp p = true) -> 0 ≤ n -> (zj i f).foldl yp n = f.foldl (fun n b => max n (most b)) n
 | [], _, _, _, _ => rfl
 | b :: f, i, n, hp, h => by
   obtain ⟨h1, h2⟩ := zhr b.pages i 0 n (hp b (List.mem_cons_self ..)) h
   rw [zj, List.foldl_append, h1, List.foldl_cons]
   have h3 : jk n b.pages = max n (most b) := by
    have := zbt b.pages n 0
    rw [show max n 0 = n by omega] at this
    exact this
   rw [← h3]
   exact zir f (i + 1) _ (fun c hc => hp c (List.mem_cons_of_mem _ hc)) h2
theorem zhf {f : List Bk} (h : zc f = true) : Xb f = next f := by
 unfold Xb next y8 Xl
 rw [if_pos h, zir f 0 0 (X0 (Jn h)) (by omega)]
end
section
open Go.RowKit Go.Maps
theorem jb (b : Bk) (A : Option Addr) (n c : Nat) (w : World) (hn : n = b.pages.length) (hl : b.pages.length < 1000000000000) (hR : Row w A (pgs b.pages)) :
 Calls Tryz.prog 106 #[.agg #[.slice A n c, .int .i64 b.worn]] w fun e w' => e = .returned (.int .i64 (clean b)) ∧ Below w.heap.size w w' := by
 subst hn
 obtain ⟨ps, n⟩ := b
 dsimp only at *
 have hB0 : Below w.heap.size w (w.alloc (.cells #[.slice A ps.length c, .int .i64 n] 99)) := bw
 have hT : Hid ((clean ⟨ps, n⟩ : Int) = 0 + (ps.drop 0).countP xm) := by unfold Hid clean; simp
 go_enter Tryz.func106, Tryz.ntmps106
 go_wp2
 go_loopw [3, 9] (fun q i wr => ∃ (k m : Nat), k ≤ ps.length ∧ i = .int .i64 k ∧ q = .int .i64 m ∧ m ≤ k ∧ Below w.heap.size w wr ∧ Hid ((clean ⟨ps, n⟩ : Int) = m + (ps.drop k).countP xm)) (fun _ i _ => ps.length - (intOf i).toNat)
 case atStart => exact ⟨0, 0, by omega, rfl, rfl, by omega, hB0, hT⟩
 case round =>
  clear hT hB0
  obtain ⟨k, m, hk, rfl, rfl, hm, hB, hT⟩ := hrel
  by_cases hlt : k < ps.length
  . obtain ⟨p, hp⟩ := zd hlt
    obtain ⟨bk, o, rfl⟩ := hR.addr (kq (by rintro rfl; simp at hlt))
    obtain ⟨c0, c1, c2, c3, c4⟩ := (hR.below hB nl).pg hp
    have hd := Lib.hid (zu hp)
    have hk1 : (k : Int) < ps.length := by omega
    have hB2 : ∀ o, Below w.heap.size w (wr.alloc o) := fun o => hB.alloc hB.size o
    clear hp
    by_cases h0 : p.state = 0
    . have hi : Hid (xm p = true) := by unfold Hid xm; simp [h0]
      rw [h0] at c0
      clear h0
      go_wp2
      go_roundw
      case rel => exact ⟨k + 1, m + 1, by omega, by go_num, by go_num, by omega, hB2 _, by rw [Hid, hT.out, hd.out, List.countP_cons, hi.out]; simp; omega⟩
      case measure => simp [intOf]; omega
    . have hi : Hid (xm p = false) := by unfold Hid xm; simp [h0]
      go_wp2
      go_roundw
      case rel => exact ⟨k + 1, m, by omega, by go_num, rfl, by omega, hB2 _, by rw [Hid, hT.out, hd.out, List.countP_cons, hi.out]; simp⟩
      case measure => simp [intOf]; omega
  . obtain rfl : k = ps.length := by omega
    go_wp2
    go_ret
    exact ⟨qp (by rw [hT.out, List.drop_of_length_le nl]; simp), hB⟩
theorem ze2 (f : List Bk) (s : Int) (A : Option Addr) (n c : Nat) (w : World) (hn : n = f.length) (hl : f.length < 1000000000000) (hp : ∀ b ∈ f, b.pages.length < 1000000000000) (hF : Fl w A f) :
 Calls Tryz.prog 116 #[.slice A n c, .int .i64 s] w fun e w' => e = .returned (.bool (qd f s)) ∧ Below w.heap.size w w' := by
 subst hn
 obtain ⟨hs, hBk⟩ := hF
 have HP := Lib.hid hp
 have hT : Hid (qd f s = (f.drop 0).any (zbe s)) := rfl
 clear hp
 go_enter Tryz.func116, Tryz.ntmps116
 go_wp2
 go_loopw [11] (fun i wr => ∃ (k : Nat), k ≤ f.length ∧ i = .int .i64 k ∧ Below w.heap.size w wr ∧ Hid (qd f s = (f.drop k).any (zbe s))) (fun i _ => f.length - (intOf i).toNat)
 case atStart => exact ⟨0, by omega, rfl, Below.refl _ _, hT⟩
 case round =>
  clear hT
  obtain ⟨k, hk, rfl, hB, hT⟩ := hrel
  by_cases hlt : k < f.length
  . obtain ⟨B, hBb⟩ := zd hlt
    obtain ⟨g, o, rfl⟩ := hBk.addr (by rintro rfl; simp at hlt)
    obtain ⟨⟨Ap, cp⟩, _, z0, z1, _, _, hR, _⟩ := (hBk.below hB nl).at_ hBb
    have hd := Lib.hid (zu hBb)
    have hpl := HP.out B (List.mem_of_getElem? hBb)
    have hk1 : (k : Int) < f.length := by omega
    obtain ⟨ps, n⟩ := B
    dsimp only at *
    have hB2 : Below w.heap.size w (wr.alloc (.cells #[.slice Ap ps.length cp, .int .i64 n] 99)) := hB.alloc hB.size _
    have hR2 := hR.alloc (.cells #[.slice Ap ps.length cp, .int .i64 n] 99)
    have hT0 : Hid (qd f s = ((ps.drop 0).any (jd s) || (f.drop (k + 1)).any (zbe s))) := by rw [Hid, hT.out, hd.out]; rfl
    clear hBb hT hd
    go_wp2
    go_loopw [18] (fun j wl => ∃ (m : Nat), m ≤ ps.length ∧ j = .int .i64 m ∧ Below w.heap.size w wl ∧ Row wl Ap (pgs ps) ∧ Hid (qd f s = ((ps.drop m).any (jd s) || (f.drop (k + 1)).any (zbe s)))) (fun j _ => ps.length - (intOf j).toNat)
    case atStart => exact ⟨0, by omega, rfl, hB2, hR2, hT0⟩
    case round =>
     clear hT0 hB2 hR2
     obtain ⟨m, hm, rfl, hBl, hRl, hT⟩ := hrel
     by_cases hltm : m < ps.length
     . obtain ⟨p, hq⟩ := zd hltm
       obtain ⟨pb, po, rfl⟩ := hRl.addr (kq (by rintro rfl; simp at hltm))
       obtain ⟨c0, c1, c2, c3, c4⟩ := hRl.pg hq
       have hd := Lib.hid (zu hq)
       have hm1 : (m : Int) < ps.length := by omega
       have hT1 : Hid (qd f s = (jd s p || ((ps.drop (m + 1)).any (jd s) || (f.drop (k + 1)).any (zbe s)))) := by rw [Hid, hT.out, hd.out, List.any_cons, Bool.or_assoc]
       have hB3 := fun (o : Obj) => hBl.alloc hBl.size o
       have hR3 := fun (o : Obj) => hRl.alloc o
       clear hq hT hd
       by_cases h1 : p.state = 1
       . by_cases h2 : p.rc.seq = s
         . have hi : Hid (jd s p = true) := by unfold Hid jd; simp [h1, h2]
           rw [h1] at c0
           rw [h2] at c2
           clear h1 h2
           go_wp2
           go_ret
           exact ⟨zk (by rw [hT1.out, hi.out]; rfl), hB3 _⟩
         . have hi : Hid (jd s p = false) := by unfold Hid jd; simp [h1, h2]
           rw [h1] at c0
           have h2' : (p.rc.seq == s) = false := by simpa using h2
           clear h1
           go_wp2
           go_roundw
           case rel => exact ⟨m + 1, by omega, by go_num, hB3 _, hR3 _, by rw [Hid, hT1.out, hi.out]; rfl⟩
           case measure => simp [intOf]; omega
       . have hi : Hid (jd s p = false) := by unfold Hid jd; simp [h1]
         have h1' : (p.state == 1) = false := by simpa using h1
         go_wp2
         go_roundw
         case rel => exact ⟨m + 1, by omega, by go_num, hB3 _, hR3 _, by rw [Hid, hT1.out, hi.out]; rfl⟩
         case measure => simp [intOf]; omega
     . obtain rfl : m = ps.length := by omega
       go_wp2
       go_roundw
       case rel => exact ⟨k + 1, by omega, by go_num, hBl, by rw [Hid, hT.out, List.drop_of_length_le nl]; rfl⟩
       case measure => simp [intOf]; omega
  . obtain rfl : k = f.length := by omega
    go_wp2
    go_ret
    exact ⟨zk (by rw [hT.out, List.drop_of_length_le nl]; rfl), hB⟩
def kr (f : List Bk) (block : Int) (r : Rc) (torn : Bool) : List Bk × Bool :=
 if zc f = false ∨ jy block = false ∨ xk r = false then ([], false) else xv f block.toNat r torn
theorem X6 {b : Bk} (h : b.pages.length = 4) : clean b ≤ 4 := by rw [← h]; exact zik b
end
section
theorem Xr {q : Int} {ps : List Pg} : q ∈ xd ps ↔ ∃ p ∈ ps, p.state = 1 ∧ p.rc.seq = q := by
 unfold xd
 rw [List.mem_map]
 constructor
 . rintro ⟨p, hp, rfl⟩
   rw [List.mem_filter] at hp
   exact ⟨p, hp.1, by simpa using hp.2, rfl⟩
 . rintro ⟨p, hp, h1, rfl⟩
   exact ⟨p, List.mem_filter.2 ⟨hp, by simpa using h1⟩, rfl⟩
theorem Jg {q : Int} {f : List Bk} : q ∈ x8 f ↔ ∃ b ∈ f, q ∈ xd b.pages := by unfold x8; rw [List.mem_flatMap]
theorem zek {f : List Bk} {s : Int} : qd f s = true ↔ s ∈ x8 f := by
 rw [Jg]
 unfold qd
 rw [List.any_eq_true]
 constructor
 . rintro ⟨b, hb, h⟩
   rw [List.any_eq_true] at h
   obtain ⟨p, hp, h⟩ := h
   unfold jd at h
   rw [Bool.and_eq_true, decide_eq_true_iff, decide_eq_true_iff] at h
   exact ⟨b, hb, Xr.2 ⟨p, hp, h.1, h.2⟩⟩
 . rintro ⟨b, hb, h⟩
   obtain ⟨p, hp, h1, h2⟩ := Xr.1 h
   refine ⟨b, hb, List.any_eq_true.2 ⟨p, hp, ?_⟩⟩
   unfold jd
   rw [Bool.and_eq_true, decide_eq_true_iff, decide_eq_true_iff]
   exact ⟨h1, h2⟩
theorem yk : ∀ {f : List Bk}, (x8 f).Nodup -> ∀ {i j : Nat} {a b : Bk} {q : Int}, i ≠ j -> f[i]? = some a -> f[j]? = some b -> q ∈ xd a.pages -> q ∉ xd b.pages
 | [], _, i, j, a, b, q, _, h1, _, _ => by simp at h1
 | c :: f, hn, i, j, a, b, q, hij, h1, h2, hq => by
   rw [show x8 (c :: f) = xd c.pages ++ x8 f from by simp [x8], List.nodup_append] at hn
   obtain ⟨n1, n2, n3⟩ := hn
   intro hq2
   cases i with
   | zero =>
     rw [List.getElem?_cons_zero, Option.some.injEq] at h1
     subst h1
     cases j with
     | zero => exact hij rfl
     | succ j =>
       rw [List.getElem?_cons_succ] at h2
       exact n3 q hq q (Jg.2 ⟨b, List.mem_of_getElem? h2, hq2⟩) rfl
   | succ i =>
     rw [List.getElem?_cons_succ] at h1
     cases j with
     | zero =>
       rw [List.getElem?_cons_zero, Option.some.injEq] at h2
       subst h2
       exact n3 q hq2 q (Jg.2 ⟨a, List.mem_of_getElem? h1, hq⟩) rfl
     | succ j =>
       rw [List.getElem?_cons_succ] at h2
       exact yk n2 (fun e => hij (by rw [e])) h1 h2 hq hq2
theorem Z4 : ∀ (ps : List Pg) (n : Int), (∀ p ∈ ps, zp p = true) -> 0 ≤ n -> n ≤ jk n ps ∧ (∀ q ∈ xd ps, q ≤ jk n ps) ∧ (jk n ps = n ∨ jk n ps ∈ xd ps)
 | [], n, _, _ => ⟨by unfold jk; simp, fun q h => by simp [xd] at h, .inl rfl⟩
 | p :: ps, n, hp, h => by
   have ho := hp p (List.mem_cons_self ..)
   obtain ⟨i1, i2, i3⟩ := Z4 ps (max n p.rc.seq) (fun q hq => hp q (List.mem_cons_of_mem _ hq)) (by omega)
   have he : jk n (p :: ps) = jk (max n p.rc.seq) ps := rfl
   rw [he, ko]
   by_cases h1 : p.state = 1
   . rw [if_pos h1]
     refine ⟨by omega, fun q hq => ?_, ?_⟩
     . rcases List.mem_cons.1 hq with rfl | hq
       . omega
       . exact i2 q hq
     . rcases i3 with i3 | i3
       . rw [i3]
         by_cases hm : n ≤ p.rc.seq
         . right; rw [show max n p.rc.seq = p.rc.seq by omega]; exact List.mem_cons_self ..
         . left; omega
       . exact .inr (List.mem_cons_of_mem _ i3)
   . rw [if_neg h1]
     have := Jq ho h1
     rw [show max n p.rc.seq = n by omega] at *
     exact ⟨i1, i2, i3⟩
theorem Kq {ps : List Pg} (hp : ∀ p ∈ ps, zp p = true) {q : Int} (hq : q ∈ xd ps) : 1 ≤ q ∧ q ≤ 600 := by
 obtain ⟨p, h, h1, rfl⟩ := Xr.1 hq
 have := xw (xl (hp p h) h1)
 omega
theorem yx : ∀ (ps : List Pg) (n : Int), (∀ p ∈ ps, zp p = true) -> 0 ≤ n ->
 (ps.foldl xi n = n ∧ (n = 0 -> xd ps = []) ∨ ps.foldl xi n ∈ xd ps) ∧ (∀ q ∈ xd ps, ps.foldl xi n ≤ q) ∧ (0 < n -> 0 < ps.foldl xi n ∧ ps.foldl xi n ≤ n) ∧ 0 ≤ ps.foldl xi n
 | [], n, _, h => ⟨.inl ⟨rfl, fun _ => rfl⟩, fun q hq => by simp [xd] at hq, fun h => ⟨h, Int.le_refl _⟩, h⟩
 | p :: ps, n, hp, h => by
   have ho := hp p (List.mem_cons_self ..)
   have hps := fun q hq => hp q (List.mem_cons_of_mem _ hq)
   rw [List.foldl_cons, ko]
   by_cases h1 : p.state = 1
   . have hr := xw (xl ho h1)
     rw [if_pos h1]
     unfold xi
     by_cases hc : 0 < p.rc.seq ∧ (n = 0 ∨ p.rc.seq < n)
     . rw [if_pos hc]
       obtain ⟨i1, i2, i3, i4⟩ := yx ps p.rc.seq hps (by omega)
       have i5 := i3 (by omega)
       unfold xi at *
       refine ⟨.inr ?_, fun q hq => ?_, fun h0 => ⟨i5.1, by omega⟩, i4⟩
       . rcases i1 with ⟨i1, _⟩ | i1
         . rw [i1]; exact List.mem_cons_self ..
         . exact List.mem_cons_of_mem _ i1
       . rcases List.mem_cons.1 hq with rfl | hq
         . exact i5.2
         . exact i2 q hq
     . rw [if_neg hc]
       obtain ⟨i1, i2, i3, i4⟩ := yx ps n hps h
       have h0 : 0 < n := by
        by_cases h0 : 0 < n
        . exact h0
        . exact absurd ⟨by omega, .inl (by omega)⟩ hc
       have i5 := i3 h0
       unfold xi at *
       refine ⟨?_, fun q hq => ?_, i3, i4⟩
       . rcases i1 with ⟨i1, _⟩ | i1
         . exact .inl ⟨i1, fun e => by omega⟩
         . exact .inr (List.mem_cons_of_mem _ i1)
       . rcases List.mem_cons.1 hq with rfl | hq
         . have : ¬ p.rc.seq < n := fun e => hc ⟨by omega, .inr e⟩
           omega
         . exact i2 q hq
   . rw [if_neg h1]
     have h0 := Jq ho h1
     have : xi n p = n := by unfold xi; rw [if_neg (by rintro ⟨h, _⟩; omega)]
     rw [this]
     exact yx ps n hps h
theorem y5 {b : Bk} (hp : ∀ p ∈ b.pages, zp p = true) {q : Int} (hq : q ∈ xd b.pages) : q ≤ most b := (Z4 b.pages 0 hp (Int.le_refl _)).2.1 q hq
theorem yb {b : Bk} (hp : ∀ p ∈ b.pages, zp p = true) (h : 0 < most b) : most b ∈ xd b.pages := by
 rcases (Z4 b.pages 0 hp (Int.le_refl _)).2.2 with h1 | h1
 . have : most b = 0 := h1
   omega
 . exact h1
theorem Q2 {b : Bk} (hp : ∀ p ∈ b.pages, zp p = true) : 0 ≤ most b := (Z4 b.pages 0 hp (Int.le_refl _)).1
theorem Kb {b : Bk} (hp : ∀ p ∈ b.pages, zp p = true) {q : Int} (hq : q ∈ xd b.pages) : jo b ≤ q := (yx b.pages 0 hp (Int.le_refl _)).2.1 q hq
theorem qr {b : Bk} (hp : ∀ p ∈ b.pages, zp p = true) (h : 0 < most b) : jo b ∈ xd b.pages := by
 have hm := yb hp h
 rcases (yx b.pages 0 hp (Int.le_refl _)).1 with ⟨_, h2⟩ | h2
 . rw [h2 rfl] at hm; cases hm
 . exact h2
theorem Zt {b : Bk} (hp : ∀ p ∈ b.pages, zp p = true) (h : 0 < most b) : 0 < jo b ∧ jo b ≤ most b :=
 ⟨by have := Kq hp (qr hp h); omega, y5 hp (qr hp h)⟩
theorem Q1 {b : Bk} (hp : ∀ p ∈ b.pages, zp p = true) (h : xd b.pages = []) : most b = 0 := by
 have h0 := Q2 hp
 by_cases hm : 0 < most b
 . have := yb hp hm
   rw [h] at this; cases this
 . omega
theorem four {α : Type} {l : List α} (h : l.length = 4) : ∃ a b c d, l = [a, b, c, d] := by
 match l, h with
 | [a, b, c, d], _ => exact ⟨a, b, c, d, rfl⟩
theorem zeh {ps : List Pg} (h4 : ps.length = 4) (hs : qo false ps = true) {q : Pg} (hq : q.state ≠ 0) (hc : ps.countP xm ≠ 0) :
 qo false (ps.set (4 - ps.countP xm) q) = true ∧ (∃ p, ps[4 - ps.countP xm]? = some p ∧ p.state = 0) ∧ (ps.set (4 - ps.countP xm) q).countP xm + 1 = ps.countP xm := by
 obtain ⟨a, b, c, d, rfl⟩ := four h4
 by_cases ha : a.state = 0 <;> by_cases hb : b.state = 0 <;> by_cases hc' : c.state = 0 <;> by_cases hd : d.state = 0 <;>
  simp [qo, xm, List.countP_cons, ha, hb, hc', hd, hq] at hs hc ⊢
theorem zei : ∀ (ps : List Pg) (k : Nat) (p q : Pg), ps[k]? = some p -> p.state ≠ 1 -> q.state = 1 -> (xd (ps.set k q)).Perm (q.rc.seq :: xd ps)
 | [], k, p, q, h, _, _ => by simp at h
 | a :: ps, 0, p, q, h, h1, hq => by
   rw [List.getElem?_cons_zero, Option.some.injEq] at h
   subst h
   rw [List.set_cons_zero, ko, ko, if_pos hq, if_neg h1]
 | a :: ps, k + 1, p, q, h, h1, hq => by
   rw [List.getElem?_cons_succ] at h
   have ih := zei ps k p q h h1 hq
   rw [List.set_cons_succ, ko, ko]
   split
   . exact (ih.cons _).trans (List.Perm.swap _ _ _)
   . exact ih
theorem zbo : ∀ (ps : List Pg) (k : Nat) (p q : Pg), ps[k]? = some p -> p.state ≠ 1 -> q.state ≠ 1 -> xd (ps.set k q) = xd ps
 | [], k, p, q, h, _, _ => by simp at h
 | a :: ps, 0, p, q, h, h1, hq => by
   rw [List.getElem?_cons_zero, Option.some.injEq] at h
   subst h
   rw [List.set_cons_zero, ko, ko, if_neg hq, if_neg h1]
 | a :: ps, k + 1, p, q, h, h1, hq => by
   rw [List.getElem?_cons_succ] at h
   have ih := zbo ps k p q h h1 hq
   rw [List.set_cons_succ, ko, ko, ih]
theorem Qs : ∀ (f : List Bk) (i : Nat) (b c : Bk) (xs : List Int), f[i]? = some b -> (xd c.pages).Perm (xs ++ xd b.pages) -> (x8 (f.set i c)).Perm (xs ++ x8 f)
 | [], i, b, c, xs, h, _ => by simp at h
 | a :: f, 0, b, c, xs, h, hc => by
   rw [List.getElem?_cons_zero, Option.some.injEq] at h
   subst h
   rw [List.set_cons_zero, show x8 (c :: f) = xd c.pages ++ x8 f from by simp [x8], show x8 (a :: f) = xd a.pages ++ x8 f from by simp [x8], ← List.append_assoc]
   exact hc.append_right _
 | a :: f, i + 1, b, c, xs, h, hc => by
   rw [List.getElem?_cons_succ] at h
   have ih := Qs f i b c xs h hc
   rw [List.set_cons_succ, show x8 (a :: f.set i c) = xd a.pages ++ x8 (f.set i c) from by simp [x8], show x8 (a :: f) = xd a.pages ++ x8 f from by simp [x8]]
   refine (ih.append_left _).trans ?_
   rw [← List.append_assoc, ← List.append_assoc]
   exact List.perm_append_comm.append_right _
def znc (r : Rc) (torn : Bool) : Pg := if torn then ⟨2, rc0⟩ else ⟨1, r⟩
def jf (b : Bk) (r : Rc) (torn : Bool) : Bk := { b with pages := b.pages.set (4 - clean b) (znc r torn) }
theorem zhx {r : Rc} (h : xk r = true) (torn : Bool) : zp (znc r torn) = true ∧ (znc r torn).state ≠ 0 := by
 cases torn
 . exact ⟨zoh h, by show (1 : Int) ≠ 0; decide⟩
 . exact ⟨zf9, by show (2 : Int) ≠ 0; decide⟩
theorem xb {f : List Bk} (h : zc f = true) {b : Bk} (hb : b ∈ f) : b.pages.length = 4 ∧ (0 ≤ b.worn ∧ b.worn ≤ 200) ∧ qo false b.pages = true ∧ ∀ p ∈ b.pages, zp p = true := by
 obtain ⟨h1, h2⟩ := ((jm f).1 h).2.1 b hb
 unfold zy at h1
 rw [Bool.and_eq_true, Bool.and_eq_true, Bool.and_eq_true, decide_eq_true_iff, decide_eq_true_iff, decide_eq_true_iff] at h1
 exact ⟨h1.1, ⟨h1.2.1, h1.2.2.1⟩, h1.2.2.2, h2⟩
theorem Z2 {f : List Bk} (h : zc f = true) {b : Bk} (hb : b ∈ f) {r : Rc} (hr : xk r = true) (torn : Bool) (hc : clean b ≠ 0) :
 zy (jf b r torn) = true ∧ (∀ p ∈ (jf b r torn).pages, zp p = true) ∧ clean (jf b r torn) + 1 = clean b ∧
 (torn = true -> xd (jf b r torn).pages = xd b.pages) ∧ (torn = false -> (xd (jf b r torn).pages).Perm ([r.seq] ++ xd b.pages)) := by
 obtain ⟨h1, h2, h3, h4⟩ := xb h hb
 obtain ⟨p1, p2⟩ := zhx hr torn
 obtain ⟨s1, ⟨p, hp, hp0⟩, s3⟩ := zeh h1 h3 p2 hc
 refine ⟨?_, fun q hq => ?_, s3, ?_, ?_⟩
 . unfold zy jf
   rw [Bool.and_eq_true, Bool.and_eq_true, Bool.and_eq_true, decide_eq_true_iff, decide_eq_true_iff, decide_eq_true_iff]
   exact ⟨by rw [List.length_set]; exact h1, h2.1, h2.2, s1⟩
 . rcases List.mem_or_eq_of_mem_set hq with hq | rfl
   . exact h4 q hq
   . exact p1
 . rintro rfl
   exact zbo _ _ p _ hp (by omega) (by show (2 : Int) ≠ 1; decide)
 . rintro rfl
   exact zei _ _ p _ hp (by omega) rfl
theorem zc1 {f : List Bk} (h : zc f = true) {i : Nat} {b : Bk} (hb : f[i]? = some b) {r : Rc} (hr : xk r = true) (torn : Bool) (hc : clean b ≠ 0) (hs : qd f r.seq ≠ true) : zc (f.set i (jf b r torn)) = true := by
 obtain ⟨k1, k2, _, k4, k5⟩ := Z2 h (List.mem_of_getElem? hb) hr torn hc
 replace hs : r.seq ∉ x8 f := fun e => hs (zek.2 e)
 rw [jm] at h ⊢
 obtain ⟨a, b', c⟩ := h
 refine ⟨by simpa using a, fun x hx => ?_, ?_⟩
 . rcases List.mem_or_eq_of_mem_set hx with hx | rfl
   . exact b' x hx
   . exact ⟨k1, k2⟩
 . cases torn
   . exact (Qs f i b _ [r.seq] hb (k5 rfl)).nodup_iff.2 (List.nodup_cons.2 ⟨hs, c⟩)
   . exact (Qs f i b _ [] hb (by rw [k4 rfl]; exact List.Perm.refl _)).nodup_iff.2 c
end
section
open Go.RowKit Go.Maps
theorem ziy (f : List Bk) (i : Nat) (r : Rc) (t : Bool) : (xv f i r t).1.length = f.length := by
 unfold xv; split <;> simp
theorem zaf (f : List Bk) (block : Int) (r : Rc) (torn : Bool) (A : Option Addr) (n c : Nat) (w : World) (hn : n = f.length) (hF : Fl w A f) :
 Calls Tryz.prog 80 #[.slice A n c, .int .i64 block, .agg #[.int .i64 r.kind, .int .i64 r.seq, .int .i64 r.addr, .int .i64 r.val], .bool torn] w (ziv (kr f block r torn) w) := by
 subst hn
 have hF0 := hF.alloc (.cells #[.int .i64 r.kind, .int .i64 r.seq, .int .i64 r.addr, .int .i64 r.val] 64)
 have hB0 : Below w.heap.size w (w.alloc (.cells #[.int .i64 r.kind, .int .i64 r.seq, .int .i64 r.addr, .int .i64 r.val] 64)) := bw
 have hq := Row.new w #[.int .i64 r.kind, .int .i64 r.seq, .int .i64 r.addr, .int .i64 r.val] 64
 obtain ⟨r0, _⟩ := hq.at0 (j := 0) rfl
 obtain ⟨r1, _⟩ := hq.at0 (j := 1) rfl
 obtain ⟨r2, _⟩ := hq.at0 (j := 2) rfl
 obtain ⟨r3, _⟩ := hq.at0 (j := 3) rfl
 have hs0 : w.heap.size < (w.alloc (.cells #[.int .i64 r.kind, .int .i64 r.seq, .int .i64 r.addr, .int .i64 r.val] 64)).heap.size := by simp
 have hfin : Hid (kr f block r torn = if zc f = false ∨ jy block = false ∨ xk r = false then ([], false) else xv f block.toNat r torn) := rfl
 clear hq
 go_enter Tryz.func80, Tryz.ntmps80
 go_wp2_with fail
 refine (xe f A c _ hF0).mono ?_
 rintro e w1 ⟨rfl, hb⟩
 replace r0 := (hb.cell (p := ⟨w.heap.size, 0, none⟩) hs0).trans r0
 replace r1 := (hb.cell (p := ⟨w.heap.size, 1, none⟩) hs0).trans r1
 replace r2 := (hb.cell (p := ⟨w.heap.size, 2, none⟩) hs0).trans r2
 replace r3 := (hb.cell (p := ⟨w.heap.size, 3, none⟩) hs0).trans r3
 have hF1 := hF0.below hb nl
 have hs1 : w.heap.size < w1.heap.size := Nat.lt_of_lt_of_le hs0 hb.size
 have hB1 : Below w.heap.size w w1 := hB0.trans (hb.mono (by simp))
 clear hb hB0 hF0 hs0
 by_cases hok : zc f = true
 . rw [hok]
   have hl := zf hok
   have hsh := Lib.hid (zm hok)
   have HL := Lib.hid hl
   go_wp2_with fail
   refine (j7 _ _).mono ?_
   rintro e w2 ⟨rfl, rfl⟩
   by_cases hbo : jy block = true
   . rw [hbo]
     have hb04 : 0 ≤ block ∧ block < 4 := by unfold jy at hbo; simpa using hbo
     obtain ⟨i, rfl⟩ := Int.eq_ofNat_of_zero_le hb04.1
     have hi4 : i < 4 := by omega
     obtain ⟨B, hB⟩ := zd (l := f) (k := i) (by omega)
     have hB4 := (hsh.out B (List.mem_of_getElem? hB)).1
     have hBget : f.getD i zbk = B := by rw [List.getD_eq_getElem?_getD, hB]; rfl
     have hcl := X6 hB4
     have hi4' : (i : Int) < 4 := by omega
     go_wp2_with fail
     refine (Ke r _).mono ?_
     rintro e w2 ⟨rfl, hb⟩
     replace r0 := (hb.cell (p := ⟨w.heap.size, 0, none⟩) hs1).trans r0
     replace r1 := (hb.cell (p := ⟨w.heap.size, 1, none⟩) hs1).trans r1
     replace r2 := (hb.cell (p := ⟨w.heap.size, 2, none⟩) hs1).trans r2
     replace r3 := (hb.cell (p := ⟨w.heap.size, 3, none⟩) hs1).trans r3
     have hF2 := hF1.below hb nl
     have hs2 : w.heap.size < w2.heap.size := Nat.lt_of_lt_of_le hs1 hb.size
     have hB2 := hB1.trans (hb.mono (by omega))
     clear hb hF1 hB1
     by_cases hro : xk r = true
     . rw [hro]
       have hfin2 : Hid (kr f i r torn = if clean B = 0 ∨ qd f r.seq = true then (f, false) else (f.set i { B with pages := B.pages.set (4 - clean B) (if torn then ⟨2, rc0⟩ else ⟨1, r⟩) }, true)) := by
        rw [Hid, hfin.out, if_neg (by rw [hok, hbo, hro]; simp), Int.toNat_natCast]
        unfold xv
        rw [hBget]
       have HB := Lib.hid hB
       have HB4 := Lib.hid hB4
       clear hfin hok hbo hro hB hB4 hBget hl hb04
       go_wp2_with fail
       refine (Zn A c f _ HL.out (fun b hb => (hsh.out b hb).1) hF2).mono ?_
       rintro e w3 ⟨g, rfl, ⟨hs, hBk, hApt⟩, hb⟩
       replace r0 := (hb.cell (p := ⟨w.heap.size, 0, none⟩) hs2).trans r0
       replace r1 := (hb.cell (p := ⟨w.heap.size, 1, none⟩) hs2).trans r1
       replace r2 := (hb.cell (p := ⟨w.heap.size, 2, none⟩) hs2).trans r2
       replace r3 := (hb.cell (p := ⟨w.heap.size, 3, none⟩) hs2).trans r3
       have hs3 : w.heap.size < w3.heap.size := Nat.lt_of_lt_of_le hs2 hb.size
       have hB3 := hB2.trans (hb.mono (by omega))
       have hlo : w.heap.size ≤ w2.heap.size := by omega
       have hhi := hb.size
       obtain ⟨⟨Z, cz⟩, hx, z0, z1, z2, z3, hR, _⟩ := hBk.at_ HB.out
       dsimp only at z0 hR
       rw [Nat.zero_add] at z0 z1 z2 z3
       rw [HB4.out] at z0
       have HX := Lib.hid hx
       have hpl : B.pages.length < 1000000000000 := by rw [HB4.out]; omega
       clear hb hF2 hB2 hx
       go_wp2_with fail
       refine (jb B Z 4 cz _ HB4.out.symm hpl hR).mono ?_
       rintro e w4 ⟨rfl, hb⟩
       replace r0 := (hb.cell (p := ⟨w.heap.size, 0, none⟩) hs3).trans r0
       replace r1 := (hb.cell (p := ⟨w.heap.size, 1, none⟩) hs3).trans r1
       replace r2 := (hb.cell (p := ⟨w.heap.size, 2, none⟩) hs3).trans r2
       replace r3 := (hb.cell (p := ⟨w.heap.size, 3, none⟩) hs3).trans r3
       have hs4 : w.heap.size < w4.heap.size := Nat.lt_of_lt_of_le hs3 hb.size
       have hB4' := hB3.trans (hb.mono (by omega))
       have hBk4 := hBk.below hb nl
       have hhi4 := hb.size
       clear hb hBk hB3 z0 z1 z2 z3 hR
       generalize clean B = n at *
       by_cases h0 : n = 0
       . subst h0
         have h3 : Hid (kr f i r torn = (f, false)) := by rw [Hid, hfin2.out, if_pos (.inl rfl)]
         go_wp2
         go_ret2
         rw [h3.out]
         exact ⟨some ⟨g, 0, none⟩, 4, Qv HL.out.symm, by rw [HL.out]; exact Nat.le_refl _, ⟨hs, hBk4, hApt.mono hlo hhi4⟩, hB4'⟩
       . have hn0 : ((n : Int) == 0) = false := by rw [beq_eq_false_iff_ne]; omega
         go_wp2_with fail
         refine (ze2 f r.seq _ 4 4 _ HL.out.symm (by rw [HL.out]; omega) (fun b hb => by rw [(hsh.out b hb).1]; omega) ⟨hs, hBk4⟩).mono ?_
         rintro e w5 ⟨rfl, hb⟩
         replace r0 := (hb.cell (p := ⟨w.heap.size, 0, none⟩) hs4).trans r0
         replace r1 := (hb.cell (p := ⟨w.heap.size, 1, none⟩) hs4).trans r1
         replace r2 := (hb.cell (p := ⟨w.heap.size, 2, none⟩) hs4).trans r2
         replace r3 := (hb.cell (p := ⟨w.heap.size, 3, none⟩) hs4).trans r3
         have hs5 : w.heap.size < w5.heap.size := Nat.lt_of_lt_of_le hs4 hb.size
         have hB5 := hB4'.trans (hb.mono (by omega))
         have hBk5 := hBk4.below hb nl
         have hhi5 := hb.size
         clear hb hBk4 hB4'
         by_cases hsq : qd f r.seq = true
         . have h3 : Hid (kr f i r torn = (f, false)) := by rw [Hid, hfin2.out, if_pos (.inr hsq)]
           rw [hsq]
           go_wp2
           go_ret2
           rw [h3.out]
           exact ⟨some ⟨g, 0, none⟩, 4, Qv HL.out.symm, by rw [HL.out]; exact Nat.le_refl _, ⟨hs, hBk5, hApt.mono hlo (by omega)⟩, hB5⟩
         . have h3 : Hid (kr f i r torn = (f.set i { B with pages := B.pages.set (4 - n) (if torn then ⟨2, rc0⟩ else ⟨1, r⟩) }, true)) := by
            rw [Hid, hfin2.out, if_neg (by intro h; rcases h with h | h; exact h0 h; exact hsq h)]
           rw [show qd f r.seq = false by simpa using hsq]
           obtain ⟨j, hj⟩ : ∃ j, j + n = 4 := ⟨4 - n, by omega⟩
           have hj4 : 4 - n = j := by omega
           have e1 : IntKind.i64.wrap ((4 : Int) - n) = (j : Int) := by rw [show (4 : Int) - n = j by omega]; exact IntWalk.i64_in _ (by omega)
           have e2 : (4 : Int) - n = (j : Int) := by omega
           rw [hj4] at h3
           clear hj4 hfin2 hsq
           obtain ⟨x, hx2, y0, y1, _, _, hR1, _⟩ := hBk5.at_ HB.out
           rw [HX.out] at hx2
           cases hx2
           dsimp only at y0 hR1
           rw [HB4.out, Nat.zero_add] at y0
           obtain ⟨p, hq⟩ := zd (l := B.pages) (k := j) (by rw [HB4.out]; omega)
           obtain ⟨pb, po, rfl⟩ := hR1.addr (kq (by intro e; rw [e] at hq; simp at hq))
           obtain ⟨c0, c1, c2, c3, c4⟩ := hR1.pg hq
           obtain ⟨f0, f1, f2, f3, f4⟩ := hR1.pgf hq
           have hj1 : (j : Int) < 4 := by omega
           have hpin := hApt.in_ i _ pb HX.out (by rw [zg])
           have HQ := Lib.hid hq
           have hpb := ze c0
           have hgl := ze y0
           have hel : ∀ X : Bk, (f.set i X).length = 4 := fun X => by rw [List.length_set]; exact HL.out
           have HEL := Lib.hid hel
           clear hq hel
           cases torn
           . have hWp := yi hR1 HQ.out ⟨1, r⟩
             have hBk6 := hBk5.setPage hApt HB.out HX.out (by rw [HB4.out]; omega) hWp
             have hB6 := hB5.trans (hWp.agr.below (B := w.heap.size) (by omega) (fun k e => by omega))
             have hss := hWp.size
             clear hWp hBk5 hB5
             go_wp2
             go_region
             all_goals
              go_wp2
              go_ret2
              rw [h3.out]
              exact ⟨some ⟨g, 0, none⟩, 4, Qv (HEL.out _).symm, by rw [HEL.out]; exact Nat.le_refl _, ⟨hs, (hBk6.alloc _).drew, hApt.mono hlo (by simp; omega)⟩, (hB6.alloc hB6.size _).drew⟩
           . have hWp := yi hR1 HQ.out ⟨2, rc0⟩
             have hBk6 := hBk5.setPage hApt HB.out HX.out (by rw [HB4.out]; omega) hWp
             have hB6 := hB5.trans (hWp.agr.below (B := w.heap.size) (by omega) (fun k e => by omega))
             have hss := hWp.size
             simp only [rc0] at hBk6 hB6
             clear hWp hBk5 hB5
             go_wp2
             go_region
             all_goals
              go_wp2
              go_ret2
              rw [h3.out]
              exact ⟨some ⟨g, 0, none⟩, 4, Qv (HEL.out _).symm, by rw [HEL.out]; exact Nat.le_refl _, ⟨hs, (hBk6.alloc _).drew, hApt.mono hlo (by simp; omega)⟩, (hB6.alloc hB6.size _).drew⟩
     . have hro' : xk r = false := by simpa using hro
       have h3 : Hid (kr f i r torn = ([], false)) := by rw [Hid, hfin.out, if_pos (.inr (.inr hro'))]
       rw [hro']
       go_wp2
       go_ret2
       rw [h3.out]
       exact ⟨none, 0, rfl, Nat.le_refl _, Q0 _ _ _, hB2⟩
   . have hbo' : jy block = false := by simpa using hbo
     have h3 : Hid (kr f block r torn = ([], false)) := by rw [Hid, hfin.out, if_pos (.inr (.inl hbo'))]
     rw [hbo']
     go_wp2
     go_ret2
     rw [h3.out]
     exact ⟨none, 0, rfl, Nat.le_refl _, Q0 _ _ _, hB1⟩
 . have hok' : zc f = false := by simpa using hok
   have h3 : Hid (kr f block r torn = ([], false)) := by rw [Hid, hfin.out, if_pos (.inl hok')]
   rw [hok']
   go_wp2
   go_ret2
   rw [h3.out]
   exact ⟨none, 0, rfl, Nat.le_refl _, Q0 _ _ _, hB1⟩
end
section
open Go.RowKit Go.Maps
def x5 (b : Bk) : Bool := decide (0 < clean b) && decide (clean b < 4)
theorem Xt (b : Bk) (A : Option Addr) (n c : Nat) (w : World) (hn : n = b.pages.length) (hl : b.pages.length < 1000000000000) (hR : Row w A (pgs b.pages)) :
 Calls Tryz.prog 59 #[.agg #[.slice A n c, .int .i64 b.worn]] w fun e w' => e = .returned (.bool (x5 b)) ∧ Below w.heap.size w w' := by
 subst hn
 have hB0 : Below w.heap.size w (w.alloc (.cells #[.slice A b.pages.length c, .int .i64 b.worn] 99)) := bw
 have hfin : Hid (x5 b = (decide (0 < clean b) && decide (clean b < 4))) := rfl
 go_enter Tryz.func59, Tryz.ntmps59
 go_wp2_with fail
 refine (jb b A _ c _ rfl hl (hR.alloc _)).mono ?_
 rintro e w1 ⟨rfl, hb⟩
 have hB1 := hB0.trans (hb.mono (by simp))
 generalize clean b = n at *
 clear hb
 by_cases h0 : 0 < n
 . have h0' : (0 : Int) < n := by omega
   by_cases h4 : n < 4
   . have h4' : (n : Int) < 4 := by omega
     go_wp2
     go_ret
     exact ⟨zk (by rw [hfin.out]; first | (simp [h0, h4]; done) | (simp [h0, h4]; omega)), hB1⟩
   . have h4' : ¬ (n : Int) < 4 := by omega
     go_wp2
     go_ret
     exact ⟨zk (by rw [hfin.out]; first | (simp [h0, h4]; done) | (simp [h0, h4]; omega)), hB1⟩
 . have h0' : ¬ (0 : Int) < n := by omega
   go_wp2
   go_ret
   exact ⟨zk (by rw [hfin.out]; simp [h0]), hB1⟩
end
section
open Go.RowKit Go.Maps
def ya : Nat -> List Bk -> Option Nat
 | _, [] => none
 | i, b :: r => if x5 b = true then some i else ya (i + 1) r
def xt (f : List Bk) : Nat -> Nat -> Bool -> List Bk -> Nat × Bool
 | _, best, found, [] => (best, found)
 | i, best, found, b :: r => if clean b = 4 ∧ (found = false ∨ b.worn < (f.getD best zbk).worn) then xt f (i + 1) i true r else xt f (i + 1) best found r
def Je (f : List Bk) : Int × Bool :=
 match ya 0 f with
 | some i => ((i : Int), true)
 | none => (((xt f 0 0 false f).1 : Int), (xt f 0 0 false f).2)
theorem Qy {f : List Bk} : ∀ (r : List Bk) (i best : Nat) (found : Bool) (out : Int), (∀ b ∈ r, b.pages.length = 4) -> (found = false -> best = 0 ∧ out = -1) -> (found = true -> out = best) ->
 jv f i out r = match ya i r with
  | some j => ((j : Int), true)
  | none => (((xt f i best found r).1 : Int), (xt f i best found r).2)
 | [], i, best, found, out, _, h1, h2 => by
   cases found
   . obtain ⟨rfl, rfl⟩ := h1 rfl; rfl
   . obtain rfl := h2 rfl
     unfold jv ya xt
     simp
 | b :: r, i, best, found, out, hp, h1, h2 => by
   have hc := X6 (hp b (List.mem_cons_self ..))
   have hp' : ∀ c ∈ r, c.pages.length = 4 := fun c hc => hp c (List.mem_cons_of_mem _ hc)
   unfold jv ya xt
   by_cases hpt : 0 < clean b ∧ clean b < 4
   . have hpb : x5 b = true := by unfold x5; simp [hpt.1, hpt.2]
     rw [if_pos hpt, if_pos hpb]
   . have hpb : ¬ x5 b = true := by unfold x5; simpa using hpt
     rw [if_neg hpt, if_neg hpb]
     by_cases h4 : clean b = 4 ∧ (found = false ∨ b.worn < (f.getD best zbk).worn)
     . have hcond : 0 < clean b ∧ (out < 0 ∨ b.worn < (f.getD out.toNat zbk).worn) := by
        refine ⟨by omega, ?_⟩
        cases found
        . obtain ⟨_, rfl⟩ := h1 rfl; exact .inl (by omega)
        . obtain rfl := h2 rfl
          rcases h4.2 with h | h
          . cases h
          . exact .inr (by rw [Int.toNat_natCast]; exact h)
       rw [if_pos hcond, if_pos h4]
       exact Qy r (i + 1) i true i hp' (fun h => by cases h) (fun _ => rfl)
     . have hcond : ¬ (0 < clean b ∧ (out < 0 ∨ b.worn < (f.getD out.toNat zbk).worn)) := by
        rintro ⟨ha, hb⟩
        have hcl : clean b = 4 := by omega
        refine h4 ⟨hcl, ?_⟩
        cases found
        . exact .inl rfl
        . obtain rfl := h2 rfl
          rcases hb with hb | hb
          . omega
          . exact .inr (by rw [Int.toNat_natCast] at hb; exact hb)
       rw [if_neg hcond, if_neg h4]
       exact Qy r (i + 1) best found out hp' h1 h2
theorem Ka {f : List Bk} (h : ∀ b ∈ f, b.pages.length = 4) : kz f = Je f := Qy f 0 0 false (-1) h (fun _ => ⟨rfl, rfl⟩) (fun h => by cases h)
def Z9 (f : List Bk) : Int × Bool := if zc f = true then kz f else (0, false)
theorem zdd (f : List Bk) (A : Option Addr) (n c : Nat) (w : World) (hn : n = f.length) (hF : Fl w A f) :
 Calls Tryz.prog 63 #[.slice A n c] w fun e w' => e = .returned (.tuple #[.int .i64 (Z9 f).1, .bool (Z9 f).2]) ∧ Below w.heap.size w w' := by
 subst hn
 go_enter Tryz.func63, Tryz.ntmps63
 go_wp2_with fail
 refine (xe f A c _ hF).mono ?_
 rintro e w1 ⟨rfl, hb1⟩
 have hF1 := hF.below hb1 nl
 by_cases hok : zc f = true
 . have HSH := Lib.hid (fun b hb => (zm hok b hb).1)
   have hfin : Hid (Z9 f = Je f) := by unfold Hid Z9; rw [if_pos hok, Ka HSH.out]
   have HL := Lib.hid (zf hok)
   rw [hok]
   clear hok
   obtain ⟨hs, hBk⟩ := hF1
   obtain ⟨g, o, rfl⟩ := hBk.addr (by intro e; have := HL.out; rw [e] at this; simp at this)
   go_wp2
   go_loopw [15] (fun i wr => ∃ k : Nat, k ≤ f.length ∧ i = .int .i64 k ∧ Below w1.heap.size w1 wr ∧ Hid (ya 0 f = ya k (f.drop k))) (fun i _ => f.length - (intOf i).toNat)
   case atStart => exact ⟨0, by omega, rfl, Below.refl _ _, rfl⟩
   case round =>
    obtain ⟨k, hk, rfl, hB, hT⟩ := hrel
    by_cases hlt : k < f.length
    . obtain ⟨B, hb⟩ := zd hlt
      obtain ⟨⟨Z, cz⟩, _, c0, c1, _, _, hR, _⟩ := (hBk.below hB nl).at_ hb
      dsimp only at c0 hR
      have hpl : B.pages.length < 1000000000000 := by rw [HSH.out B (List.mem_of_getElem? hb)]; omega
      have hk1 : (k : Int) < f.length := by omega
      have hl4 := HL.out
      have e1 : IntKind.i64.wrap ((k : Int) + 1) = (k : Int) + 1 := IntWalk.i64_in _ (by omega)
      clear hl4
      have hT2 : Hid (ya 0 f = if x5 B = true then some k else ya (k + 1) (f.drop (k + 1))) := by rw [Hid, hT.out, zu hb]; rfl
      have hRa := hR.alloc (.cells #[.slice Z B.pages.length cz, .int .i64 B.worn] 99)
      have hBa : Below w1.heap.size w1 (wr.alloc (.cells #[.slice Z B.pages.length cz, .int .i64 B.worn] 99)) := hB.alloc hB.size _
      have hsz : (wr.alloc (.cells #[.slice Z B.pages.length cz, .int .i64 B.worn] 99)).heap.size = wr.heap.size + 1 := by simp
      clear hb hT
      go_wp2_with fail
      refine (Xt B Z _ cz _ rfl hpl hRa).mono ?_
      rintro e w2 ⟨rfl, hb2⟩
      have hB2 := hBa.trans (hb2.mono (by have := hB.size; omega))
      by_cases hpt : x5 B = true
      . have h3 : Hid (Je f = ((k : Int), true)) := by rw [Hid]; unfold Je; rw [hT2.out, if_pos hpt]
        rw [hpt]
        go_wp2
        go_ret2
        exact ⟨by rw [hfin.out, h3.out]; rfl, hb1.trans (hB2.mono hb1.size)⟩
      . have h3 : Hid (ya 0 f = ya (k + 1) (f.drop (k + 1))) := by rw [Hid, hT2.out, if_neg hpt]
        rw [show x5 B = false from by simpa using hpt]
        go_wp2
        go_roundw
        (case rel => exact ⟨k + 1, by omega, by go_num, hB2, h3⟩)
        (case measure => simp [intOf]; omega)
    . obtain rfl : k = f.length := by omega
      have hnone : Hid (Je f = (((xt f 0 0 false f).1 : Int), (xt f 0 0 false f).2)) := by
       rw [Hid]; unfold Je; rw [hT.out, List.drop_of_length_le nl]; rfl
      clear hT
      have hl4 := HL.out
      have hfp : 0 < f.length := by omega
      clear hl4
      go_wp2
      go_loopw [6, 7, 26] (fun q u i wl => ∃ (k m : Nat) (fd : Bool), k ≤ f.length ∧ m < f.length ∧ i = .int .i64 k ∧ q = .int .i64 m ∧ u = .bool fd ∧ Below w1.heap.size w1 wl ∧ Hid (xt f 0 0 false f = xt f k m fd (f.drop k))) (fun _ _ i _ => f.length - (intOf i).toNat)
      case atStart => exact ⟨0, 0, false, by omega, hfp, rfl, rfl, rfl, hB, rfl⟩
      case round =>
       obtain ⟨k, m, fd, hk, hm, rfl, rfl, rfl, hBl, hT⟩ := hrel
       by_cases hlt : k < f.length
       . obtain ⟨B, hb⟩ := zd hlt
         obtain ⟨Bm, hbm⟩ := zd hm
         have hBkl := hBk.below hBl nl
         obtain ⟨⟨Z, cz⟩, _, c0, c1, _, _, hR, _⟩ := hBkl.at_ hb
         obtain ⟨_, _, _, m1, _⟩ := hBkl.at_ hbm
         dsimp only at c0 hR
         have hpl : B.pages.length < 1000000000000 := by rw [HSH.out B (List.mem_of_getElem? hb)]; omega
         have hcl := X6 (HSH.out B (List.mem_of_getElem? hb))
         have hgm : f.getD m zbk = Bm := by rw [List.getD_eq_getElem?_getD, hbm]; rfl
         have hT2 : Hid (xt f 0 0 false f = if clean B = 4 ∧ (fd = false ∨ B.worn < Bm.worn) then xt f (k + 1) k true (f.drop (k + 1)) else xt f (k + 1) m fd (f.drop (k + 1))) := by rw [Hid, hT.out, zu hb, xt, hgm]
         have hk1 : (k : Int) < f.length := by omega
         have hm1 : (m : Int) < f.length := by omega
         clear hb hbm hgm hT hBkl
         have hl4 := HL.out
         have e1 : IntKind.i64.wrap ((k : Int) + 1) = (k : Int) + 1 := IntWalk.i64_in _ (by omega)
         clear hl4
         have hnw := Row.new wr #[.slice Z B.pages.length cz, .int .i64 B.worn] 99
         obtain ⟨y0, _⟩ := hnw.at0 (j := 0) rfl
         obtain ⟨y1, _⟩ := hnw.at0 (j := 1) rfl
         have l9 : wr.heap.size < (wr.alloc (.cells #[.slice Z B.pages.length cz, .int .i64 B.worn] 99)).heap.size := by simp
         have lg0 := ze m1
         have y2 : (wr.alloc (.cells #[.slice Z B.pages.length cz, .int .i64 B.worn] 99)).cell? ⟨g, o + m * 2 + 1, none⟩ = some (.int .i64 Bm.worn) := (((Below.refl wr.heap.size wr).alloc nl _).cell (p := ⟨g, o + m * 2 + 1, none⟩) lg0).trans m1
         have lg : g < (wr.alloc (.cells #[.slice Z B.pages.length cz, .int .i64 B.worn] 99)).heap.size := by omega
         have hRd := (hR.alloc (.cells #[.slice Z B.pages.length cz, .int .i64 B.worn] 99)).drew
         have hBa : Below w1.heap.size w1 (wr.alloc (.cells #[.slice Z B.pages.length cz, .int .i64 B.worn] 99)) := hBl.alloc hBl.size _
         have hsz := hBa.size
         clear hnw
         by_cases hq : clean B = 4
         . have HQ := Lib.hid hq
           cases fd
           . have h3 : Hid (xt f 0 0 false f = xt f (k + 1) k true (f.drop (k + 1))) := by rw [Hid, hT2.out, if_pos ⟨hq, .inl rfl⟩]
             clear hq
             go_wp2
             refine wp_region_held_drew (S := (fun w' => w'.cell? ⟨wr.heap.size, 0, none⟩ = some (.slice Z B.pages.length cz) ∧ w'.cell? ⟨wr.heap.size, 1, none⟩ = some (.int .i64 B.worn) ∧ w'.cell? ⟨g, o + m * 2 + 1, none⟩ = some (.int .i64 Bm.worn))) (by kernel_rfl) ⟨y0, y1, y2⟩ (fun hHeld => ?_)
             refine tA 0 hHeld ?_
             try simp only [Act.put, jj]
             refine wpAnyH_ready (rs := [1]) (by kernel_rfl) (by simp) ?_
             refine AllReadyH.cons rfl (fun K hK => ?_) AllReadyH.nil
             go_simp
             refine (jb B Z _ cz _ rfl hpl hRd).mono ?_
             rw [HQ.out]
             rintro e w10 ⟨rfl, hb10⟩
             replace hb10 := Xh hb10
             go_wp2_with fail
             refine hK.out _ _ ⟨(hb10.cell (p := ⟨wr.heap.size, 0, none⟩) l9).trans y0, (hb10.cell (p := ⟨wr.heap.size, 1, none⟩) l9).trans y1, (hb10.cell (p := ⟨g, o + m * 2 + 1, none⟩) lg).trans y2⟩ (fun hHeld2 => ?_)
             clear hK K
             try simp only [Act.put, jj]
             refine tA 2 hHeld2 ?_
             try simp only [Act.put, jj]
             refine tA 3 hHeld2 ?_
             try simp only [Act.put, jj]
             refine tA 4 hHeld2 ?_
             try simp only [Act.put, jj]
             refine tA 5 hHeld2 ?_
             try simp only [Act.put, jj]
             refine tA 6 hHeld2 ?_
             try simp only [Act.put, jj]
             refine tB 7 hHeld2 ?_
             try simp only [Act.put, jj]
             refine tB 8 hHeld2 ?_
             try simp only [Act.put, jj]
             refine tB 9 hHeld2 ?_
             try simp only [Act.put, jj]
             refine tB 10 hHeld2 ?_
             try simp only [Act.put, jj]
             refine tB 11 hHeld2 ?_
             try simp only [Act.put, jj]
             refine tB 12 hHeld2 ?_
             try simp only [Act.put, jj]
             refine tB 13 hHeld2 ?_
             try simp only [Act.put, jj]
             refine tB 14 hHeld2 ?_
             try simp only [Act.put, jj]
             refine tA 15 hHeld2 ?_
             try simp only [Act.put, jj]
             refine tA 16 hHeld2 ?_
             try simp only [Act.put, jj]
             refine wpAnyH_done (by kernel_rfl) ?_ _
             have hB10 := hBa.trans (hb10.mono hsz)
             clear y0 y1 y2 hb10
             go_wp2
             go_roundw
             (case rel => exact ⟨k + 1, k, true, by omega, by omega, by go_num, rfl, rfl, hB10, h3⟩)
             (case measure => simp [intOf]; omega)
           . by_cases hwn : B.worn < Bm.worn
             . have h3 : Hid (xt f 0 0 false f = xt f (k + 1) k true (f.drop (k + 1))) := by rw [Hid, hT2.out, if_pos ⟨hq, .inr hwn⟩]
               clear hq
               go_wp2
               refine wp_region_held_drew (S := (fun w' => w'.cell? ⟨wr.heap.size, 0, none⟩ = some (.slice Z B.pages.length cz) ∧ w'.cell? ⟨wr.heap.size, 1, none⟩ = some (.int .i64 B.worn) ∧ w'.cell? ⟨g, o + m * 2 + 1, none⟩ = some (.int .i64 Bm.worn))) (by kernel_rfl) ⟨y0, y1, y2⟩ (fun hHeld => ?_)
               refine tA 0 hHeld ?_
               try simp only [Act.put, jj]
               refine wpAnyH_ready (rs := [1]) (by kernel_rfl) (by simp) ?_
               refine AllReadyH.cons rfl (fun K hK => ?_) AllReadyH.nil
               go_simp
               refine (jb B Z _ cz _ rfl hpl hRd).mono ?_
               rw [HQ.out]
               rintro e w10 ⟨rfl, hb10⟩
               replace hb10 := Xh hb10
               go_wp2_with fail
               refine hK.out _ _ ⟨(hb10.cell (p := ⟨wr.heap.size, 0, none⟩) l9).trans y0, (hb10.cell (p := ⟨wr.heap.size, 1, none⟩) l9).trans y1, (hb10.cell (p := ⟨g, o + m * 2 + 1, none⟩) lg).trans y2⟩ (fun hHeld2 => ?_)
               clear hK K
               try simp only [Act.put, jj]
               refine tA 2 hHeld2 ?_
               try simp only [Act.put, jj]
               refine tA 3 hHeld2 ?_
               try simp only [Act.put, jj]
               refine tA 4 hHeld2 ?_
               try simp only [Act.put, jj]
               refine tA 5 hHeld2 ?_
               try simp only [Act.put, jj]
               refine tA 6 hHeld2 ?_
               try simp only [Act.put, jj]
               refine tA 7 hHeld2 ?_
               try simp only [Act.put, jj]
               refine tA 8 hHeld2 ?_
               try simp only [Act.put, jj]
               refine tA 9 hHeld2 ?_
               try simp only [Act.put, jj]
               refine tA 10 hHeld2 ?_
               try simp only [Act.put, jj]
               refine tA 11 hHeld2 ?_
               try simp only [Act.put, jj]
               refine tA 12 hHeld2 ?_
               try simp only [Act.put, jj]
               refine tA 13 hHeld2 ?_
               try simp only [Act.put, jj]
               refine tA 14 hHeld2 ?_
               try simp only [Act.put, jj]
               refine tA 15 hHeld2 ?_
               try simp only [Act.put, jj]
               refine tA 16 hHeld2 ?_
               try simp only [Act.put, jj]
               refine wpAnyH_done (by kernel_rfl) ?_ _
               have hB10 := hBa.trans (hb10.mono hsz)
               clear y0 y1 y2 hb10
               go_wp2
               go_roundw
               (case rel => exact ⟨k + 1, k, true, by omega, by omega, by go_num, rfl, rfl, hB10, h3⟩)
               (case measure => simp [intOf]; omega)
             . have h3 : Hid (xt f 0 0 false f = xt f (k + 1) m true (f.drop (k + 1))) := by rw [Hid, hT2.out, if_neg (by rintro ⟨_, h | h⟩; cases h; exact hwn h)]
               clear hq
               go_wp2
               refine wp_region_held_drew (S := (fun w' => w'.cell? ⟨wr.heap.size, 0, none⟩ = some (.slice Z B.pages.length cz) ∧ w'.cell? ⟨wr.heap.size, 1, none⟩ = some (.int .i64 B.worn) ∧ w'.cell? ⟨g, o + m * 2 + 1, none⟩ = some (.int .i64 Bm.worn))) (by kernel_rfl) ⟨y0, y1, y2⟩ (fun hHeld => ?_)
               refine tA 0 hHeld ?_
               try simp only [Act.put, jj]
               refine wpAnyH_ready (rs := [1]) (by kernel_rfl) (by simp) ?_
               refine AllReadyH.cons rfl (fun K hK => ?_) AllReadyH.nil
               go_simp
               refine (jb B Z _ cz _ rfl hpl hRd).mono ?_
               rw [HQ.out]
               rintro e w10 ⟨rfl, hb10⟩
               replace hb10 := Xh hb10
               go_wp2_with fail
               refine hK.out _ _ ⟨(hb10.cell (p := ⟨wr.heap.size, 0, none⟩) l9).trans y0, (hb10.cell (p := ⟨wr.heap.size, 1, none⟩) l9).trans y1, (hb10.cell (p := ⟨g, o + m * 2 + 1, none⟩) lg).trans y2⟩ (fun hHeld2 => ?_)
               clear hK K
               try simp only [Act.put, jj]
               refine tA 2 hHeld2 ?_
               try simp only [Act.put, jj]
               refine tA 3 hHeld2 ?_
               try simp only [Act.put, jj]
               refine tA 4 hHeld2 ?_
               try simp only [Act.put, jj]
               refine tA 5 hHeld2 ?_
               try simp only [Act.put, jj]
               refine tA 6 hHeld2 ?_
               try simp only [Act.put, jj]
               refine tA 7 hHeld2 ?_
               try simp only [Act.put, jj]
               refine tA 8 hHeld2 ?_
               try simp only [Act.put, jj]
               refine tA 9 hHeld2 ?_
               try simp only [Act.put, jj]
               refine tA 10 hHeld2 ?_
               try simp only [Act.put, jj]
               refine tA 11 hHeld2 ?_
               try simp only [Act.put, jj]
               refine tA 12 hHeld2 ?_
               try simp only [Act.put, jj]
               refine tA 13 hHeld2 ?_
               try simp only [Act.put, jj]
               refine tA 14 hHeld2 ?_
               try simp only [Act.put, jj]
               refine tA 15 hHeld2 ?_
               try simp only [Act.put, jj]
               refine tA 16 hHeld2 ?_
               try simp only [Act.put, jj]
               refine wpAnyH_done (by kernel_rfl) ?_ _
               have hB10 := hBa.trans (hb10.mono hsz)
               clear y0 y1 y2 hb10
               go_wp2
               go_roundw
               (case rel => exact ⟨k + 1, m, true, by omega, hm, by go_num, rfl, rfl, hB10, h3⟩)
               (case measure => simp [intOf]; omega)
         . have h3 : Hid (xt f 0 0 false f = xt f (k + 1) m fd (f.drop (k + 1))) := by rw [Hid, hT2.out, if_neg (fun h => hq h.1)]
           have e4 : ((clean B : Int) == 4) = false := by rw [beq_eq_false_iff_ne]; omega
           clear hq
           go_wp2
           refine wp_region_held_drew (S := (fun w' => w'.cell? ⟨wr.heap.size, 0, none⟩ = some (.slice Z B.pages.length cz) ∧ w'.cell? ⟨wr.heap.size, 1, none⟩ = some (.int .i64 B.worn) ∧ w'.cell? ⟨g, o + m * 2 + 1, none⟩ = some (.int .i64 Bm.worn))) (by kernel_rfl) ⟨y0, y1, y2⟩ (fun hHeld => ?_)
           refine tA 0 hHeld ?_
           try simp only [Act.put, jj]
           refine wpAnyH_ready (rs := [1]) (by kernel_rfl) (by simp) ?_
           refine AllReadyH.cons rfl (fun K hK => ?_) AllReadyH.nil
           go_simp
           refine (jb B Z _ cz _ rfl hpl hRd).mono ?_
           rintro e w10 ⟨rfl, hb10⟩
           replace hb10 := Xh hb10
           go_wp2_with fail
           refine hK.out _ _ ⟨(hb10.cell (p := ⟨wr.heap.size, 0, none⟩) l9).trans y0, (hb10.cell (p := ⟨wr.heap.size, 1, none⟩) l9).trans y1, (hb10.cell (p := ⟨g, o + m * 2 + 1, none⟩) lg).trans y2⟩ (fun hHeld2 => ?_)
           clear hK K
           try simp only [Act.put, jj]
           refine tA 2 hHeld2 ?_
           try simp only [Act.put, jj]
           refine tA 3 hHeld2 ?_
           try simp only [Act.put, jj]
           refine tB 4 hHeld2 ?_
           try simp only [Act.put, jj]
           refine tB 5 hHeld2 ?_
           try simp only [Act.put, jj]
           refine tB 6 hHeld2 ?_
           try simp only [Act.put, jj]
           refine tB 7 hHeld2 ?_
           try simp only [Act.put, jj]
           refine tB 8 hHeld2 ?_
           try simp only [Act.put, jj]
           refine tB 9 hHeld2 ?_
           try simp only [Act.put, jj]
           refine tB 10 hHeld2 ?_
           try simp only [Act.put, jj]
           refine tB 11 hHeld2 ?_
           try simp only [Act.put, jj]
           refine tB 12 hHeld2 ?_
           try simp only [Act.put, jj]
           refine tB 13 hHeld2 ?_
           try simp only [Act.put, jj]
           refine tB 14 hHeld2 ?_
           try simp only [Act.put, jj]
           refine tB 15 hHeld2 ?_
           try simp only [Act.put, jj]
           refine tA 16 hHeld2 ?_
           try simp only [Act.put, jj]
           refine wpAnyH_done (by kernel_rfl) ?_ _
           have hB10 := hBa.trans (hb10.mono hsz)
           clear y0 y1 y2 hb10
           go_wp2
           go_roundw
           (case rel => exact ⟨k + 1, m, fd, by omega, hm, by go_num, rfl, rfl, hB10, h3⟩)
           (case measure => simp [intOf]; omega)
       . obtain rfl : k = f.length := by omega
         have h3 : Hid (xt f 0 0 false f = (m, fd)) := by rw [Hid, hT.out, List.drop_of_length_le nl]; rfl
         go_wp2
         go_ret2
         exact ⟨by rw [hfin.out, hnone.out, h3.out]; rfl, hb1.trans (hBl.mono hb1.size)⟩
 . have hok' : zc f = false := by simpa using hok
   have hfin : Hid (Z9 f = (0, false)) := by unfold Hid Z9; rw [if_neg hok]
   rw [hok']
   go_wp2
   go_ret2
   exact ⟨by rw [hfin.out]; rfl, hb1⟩
end
section
open Go.RowKit Go.Conc
def Lain (W : World) (A : Option Addr) : Prop := ∀ a, A = some a -> a.spot = none ∧ ∃ cs t fr, W.heap[a.block]? = some (.cells cs t fr)
theorem zgs {P : Program} {W : World} {r : Reach} {base : Nat} {t e : TypeId} {a : Option Addr} {l c : Nat} (ht : P.underlying t = some (.slice e)) (h : Value.okWide P W r base t (.slice a l c)) : Lain W a := by
 rintro a rfl
 simp only [Value.okWide, ht, Cell.okWide, Cell.ok] at h
 obtain ⟨_, _, _, h1, row, cells, h2, _⟩ := h
 refine ⟨h1, ?_⟩
 unfold World.shape? at h2
 split at h2
 . rename_i cs t' fr ho
   exact ⟨_, _, _, ho⟩
 . cases h2
theorem zm5 {W : World} {A : Option Addr} {bs : List Nat} {c : Nat} (hc : Code W A bs c) (hl : Lain W A) :
 ∃ Gd A0, Co (good Gd) (fun _ => False) A0 W W ∧ VIn (good Gd) A0 (.slice A bs.length c) ∧ Code (cutW (good Gd) W) A bs c := by
 cases A with
 | none =>
   refine ⟨none, fun _ => False, ⟨⟨fun r hr => hr.elim, fun c l h e => by cases e⟩, fun b hb => hb.elim, .refl W⟩, .slice0 _ _, ?_⟩
   rw [zax rfl]
   exact hc
 | some a =>
   obtain ⟨hs, cs, t, fr, ho⟩ := hl a rfl
   obtain ⟨cb, off, spot⟩ := a
   simp only at hs ho
   subst hs
   have hlt : cb < W.heap.size := (Array.getElem?_eq_some_iff.1 ho).1
   have hrow : ∀ j, j < bs.length -> ∃ n : Int, W.cell? ⟨cb, off + j, none⟩ = some (.int .u8 n) := by
    intro j hj
    obtain ⟨b, o, e, hr⟩ := hc.row (by intro e; rw [List.map_eq_nil_iff.1 e] at hj; simp at hj)
    cases e
    refine ⟨(bs[j] : Nat), hr j _ ?_⟩
    simp [bytes, hj]
   have hcut : (cutW (good (some (cb, off, off + bs.length))) W).heap[cb]? = some (.cells (cs.extract 0 (off + bs.length)) t fr) := by
    rw [Jp rfl]
    simp [Array.getElem?_modify, ho, cutO]
   have hcell : ∀ j u, W.cell? ⟨cb, j, none⟩ = some u -> cs[j]? = some u := by
    intro j u h
    simpa [World.cell?, ho] using h
   refine ⟨some (cb, off, off + bs.length), fun b => b = cb, ⟨⟨?_, ?_⟩, fun b hb => hb.elim, .refl W⟩, .slice _ _ ⟨rfl, ?_⟩, ⟨hc.len, hc.cap, hc.byte, fun hn => ?_⟩⟩
   . rintro r rfl
     refine ⟨_, hcut, .cells fun j v hj hv => ?_⟩
     have hj' : off ≤ j := by
      have : (good (some (r, off, off + bs.length))).lo r = off := by simp [Cfg.lo, good]
      rwa [this] at hj
     rw [Array.getElem?_extract] at hv
     split at hv
     . rename_i hlt2
       obtain ⟨n, hn⟩ := hrow (j - off) (by omega)
       rw [show off + (j - off) = j by omega] at hn
       have := hcell j _ hn
       rw [show 0 + j = j by omega, this] at hv
       cases hv
       exact .int _ _
     . cases hv
   . intro c l h e
     cases e
     rw [zw]; exact hlt
   . simp [Cfg.lo, good]
   . obtain ⟨b, o, e, hr⟩ := hc.row hn
     cases e
     refine ⟨cb, off, rfl, fun j u hj => ?_⟩
     have hjl : j < bs.length := by have := (List.getElem?_eq_some_iff.1 hj).1; simpa [bytes] using this
     have h1 := hcell _ _ (hr j u hj)
     have h2 : (cs.extract 0 (off + bs.length))[off + j]? = some u := by
      rw [Array.getElem?_extract]
      have hsz := (Array.getElem?_eq_some_iff.1 h1).1
      rw [if_pos (by omega)]
      simpa using h1
     simp [World.cell?, hcut, h2]
theorem zgl {Post : Value -> World -> Prop} {fr : Frame} {W : World} (h : Fine Tryz.prog Post (fun _ => False) (Go.Conc.G fr []) W) :
 ∃ M last o w' t', runNT Tryz.prog (M + 1) (solo (Go.Conc.G fr []) W) #[] = (.ended o w', t') ∧ runN Tryz.prog M (solo (Go.Conc.G fr []) W) = .next last ∧ step Tryz.prog last = .ended o w' ∧ Go.Conc.Good Tryz.prog Post last o w' t' := by
 have hE := ku.mono (B := 0) h (Nat.zero_le _) W.tape W.drawn #[Go.Conc.G fr []] none #[] (fun _ => 0) (fun _ => False) (fun l hl => hl.elim) rfl (leavers_one _ _) past_nil
 rw [Xm, ← solo_eq_crowd] at hE
 exact hE
end
section
open Go.Conc Go.ConcN Go.ConcR.Gen Go.RowKit
theorem Code.tp {w : World} {A : Option Addr} {bs : List Nat} {c : Nat} (h : Code w A bs c) (T : Nat -> Question -> Nat) (d : Nat) : Code (tp0 w T d) A bs c := ⟨h.len, h.cap, h.byte, h.row⟩
theorem zqf : ∀ (l : List Bk) (a : Int), (l.foldl loS a ≤ a) ∧ ∀ b ∈ l, l.foldl loS a ≤ b.worn
 | [], a => ⟨Int.le_refl _, by simp⟩
 | x :: l, a => by
   rw [List.foldl_cons]
   have ih := zqf l (loS a x)
   have h1 : loS a x ≤ a ∧ loS a x ≤ x.worn := by unfold loS; split <;> omega
   refine ⟨by omega, fun b hb => ?_⟩
   rcases List.mem_cons.1 hb with rfl | hb
   . omega
   . exact ih.2 b hb
theorem zqj : ∀ (l : List Bk) (a : Int), (a ≤ l.foldl hiS a) ∧ ∀ b ∈ l, b.worn ≤ l.foldl hiS a
 | [], a => ⟨Int.le_refl _, by simp⟩
 | x :: l, a => by
   rw [List.foldl_cons]
   have ih := zqj l (hiS a x)
   have h1 : a ≤ hiS a x ∧ x.worn ≤ hiS a x := by unfold hiS; split <;> omega
   refine ⟨by omega, fun b hb => ?_⟩
   rcases List.mem_cons.1 hb with rfl | hb
   . omega
   . exact ih.2 b hb
theorem zpy {f : List Bk} {b : Bk} (hb : b ∈ f) : wLo f ≤ b.worn := (zqf f 200).2 b hb
theorem zqh {f : List Bk} {b : Bk} (hb : b ∈ f) : b.worn ≤ wHi f := (zqj f 0).2 b hb
theorem zie {f : List Bk} (h : zc f = true) : ∃ b, b ∈ f := by
 have := (xj h).1
 cases f with
 | nil => simp at this
 | cons b f => exact ⟨b, List.mem_cons_self ..⟩
end
section
theorem zoz {f : List Bk} (hok : zc f = true) : ∃ b ∈ f, b.worn = wLo f := by
 have key : ∀ (l : List Bk) (a : Int), l.foldl loS a = a ∨ ∃ b ∈ l, b.worn = l.foldl loS a := by
  intro l
  induction l with
  | nil => intro a; exact .inl rfl
  | cons x l ih =>
    intro a
    rw [List.foldl_cons]
    rcases ih (loS a x) with h | ⟨b, hb, h⟩
    . rw [h]
      unfold loS
      split
      . exact .inr ⟨x, List.mem_cons_self .., rfl⟩
      . exact .inl rfl
    . exact .inr ⟨b, List.mem_cons_of_mem _ hb, h⟩
 obtain ⟨b, hb⟩ := zie hok
 rcases key f 200 with h | h
 . have h1 := zpy hb
   have h2 := ((xj hok).2 b hb).2.2
   refine ⟨b, hb, ?_⟩
   have : wLo f = 200 := h
   omega
 . exact h
theorem zo0 {f : List Bk} (hok : zc f = true) : ∃ b ∈ f, b.worn = wHi f := by
 have key : ∀ (l : List Bk) (a : Int), l.foldl hiS a = a ∨ ∃ b ∈ l, b.worn = l.foldl hiS a := by
  intro l
  induction l with
  | nil => intro a; exact .inl rfl
  | cons x l ih =>
    intro a
    rw [List.foldl_cons]
    rcases ih (hiS a x) with h | ⟨b, hb, h⟩
    . rw [h]
      unfold hiS
      split
      . exact .inr ⟨x, List.mem_cons_self .., rfl⟩
      . exact .inl rfl
    . exact .inr ⟨b, List.mem_cons_of_mem _ hb, h⟩
 obtain ⟨b, hb⟩ := zie hok
 rcases key f 0 with h | h
 . have h1 := zqh hb
   have h2 := ((xj hok).2 b hb).2.1
   refine ⟨b, hb, ?_⟩
   have : wHi f = 0 := h
   omega
 . exact h
theorem Qm : ∀ (l : List Bk), (∀ b ∈ l, tornN b.pages = 0) -> ∀ a : Int, l.foldl (fun a b => a + (tornN b.pages : Int)) a = a
 | [], _, _ => rfl
 | x :: l, h, a => by
   rw [List.foldl_cons, h x (List.mem_cons_self ..), Qm l (fun b hb => h b (List.mem_cons_of_mem _ hb))]
   simp
end
section
open Go.RowKit
def z9 (K : Act -> World -> Prop) : Exit -> Act -> World -> Prop
 | .normal, a, w => K a w
 | _, _, _ => False
def Jv (o : Oper) : Bool := match o.op with
 | .defer _ => false
 | _ => true
theorem zet {o : Oper} (h : Jv o = true) : ∀ c, o.op ≠ .defer c := fun c e => by
 unfold Jv at h; rw [e] at h; cases h
section
variable {P : Program} {ops : Array Oper} {md : Region.Mode} {K : Act -> World -> Prop} {Q : Exit -> Act -> World -> Prop} {l n : Nat}
theorem znf {i : Nat} {K1 K2 : Act -> World -> Prop} {a : Act} {w : World} (hnd : ops.all Jv = true) (hK : ∀ a w, K1 a w -> K2 a w) (h : wpOp P ops (z9 K) i K1 a w) :
 wpOpIn (Fence.wide.inRound l) n P ops Q i K2 a w := by
 unfold wpOp at h
 unfold wpOpIn
 cases ho : ops[i]? with
 | none => simp only [ho] at h ⊢; exact hK _ _ h
 | some o =>
   simp only [ho] at h ⊢
   have hd : ∀ c, o.op ≠ .defer c := zet (by
    rw [Array.all_eq_true'] at hnd
    exact hnd o (Array.mem_of_getElem? ho))
   split
   . rename_i hw
     simp only [hw, if_true] at h
     rcases h with h | ⟨_, _, _, h⟩
     . unfold Oper.wp at h
       refine ⟨fun _ _ => trivial, ?_⟩
       rw [Oper.semAt_eq _ _ _ hd]
       generalize (execOp a.eval o).run P w = r at h
       cases r with
       | ok nx w' =>
         cases nx with
         | value v => exact hK _ _ h
         | skip => exact hK _ _ h
         | defer d => exact hK _ _ h
         | enter f args =>
           refine ⟨fun hd => (by cases hd), ?_⟩
           refine (callsIn_wide.2 (Calls.mono (R := fun | .returned v, w'' => K1 (a.put o.dst v) w'' | .panicked chain, w'' => z9 K (.panic chain) a w'' | .outgrown, _ => LetsOut (z9 K)) h fun e w'' he => ?_)).inRound l
           cases e with
           | returned v => exact hK _ _ he
           | panicked c => exact he.elim
           | outgrown => obtain ⟨_, _, hf⟩ := he; exact hf.elim
         | row row args => exact ⟨fun hd => (by cases hd), fun c cs _ => by
          obtain ⟨v, w'', r, s⟩ := h c cs
          exact ⟨v, w'', hK _ _ r, stepsIn_wide.2 s⟩⟩
         | round _ _ _ _ _ => exact h.elim
         | _ => exact h.elim
       | halt hh w' =>
         cases hh with
         | panic v => exact h.elim
         | _ => exact h.elim
     . exact h.elim
   . rename_i hw
     simp only [hw] at h
     exact ⟨fun _ _ => trivial, hK _ _ h⟩
theorem zfr (hnd : ops.all Jv = true) (hQ : ∀ a w, K a w -> Q .normal a w) : ∀ (fuel : Nat) (listed : Array Bool) (a : Act) (w : World), wpAny P md ops (z9 K) fuel listed a w -> wpAnyIn (Fence.wide.inRound l) n P md ops Q fuel listed a w
 | 0, _, _, _, h => ⟨h.1, hQ _ _ h.2⟩
 | fuel + 1, listed, a, w, h => ⟨fun e => hQ _ _ (h.1 e), fun i hi => znf hnd (fun a w => zfr hnd hQ fuel _ a w) (h.2 i hi)⟩
theorem jg {id : Nat} {a : Act} {w : World} (hm : P.follows .mixedOrders = true) (hnd : ops.all Jv = true)
 (h : wpAny P .any ops (z9 fun a w => Q .normal a w) ops.size (Array.replicate ops.size false) a w.drew) : (Code.region id ops true).wpIn (Fence.wide.inRound l) n P Q a w :=
 wpIn_region_any hm (zfr hnd (fun _ _ h => h) _ _ _ _ h)
theorem yl {S : World -> Prop} {id : Nat} {a : Act} {w : World} (hm : P.follows .mixedOrders = true) (hnd : ops.all Jv = true) (hS : S w.drew)
 (h : S w.drew -> wpAnyH P .any ops (z9 fun a w => Q .normal a w) S ops.size (Array.replicate ops.size false) a w.drew) : (Code.region id ops true).wpIn (Fence.wide.inRound l) n P Q a w :=
 jg hm hnd (wpAny_of_held _ _ _ _ (h hS))
end
end
end Go.Proofs.YtclnogfmmekooaaGreat
