/- What the laws' walks share: words, plain laws, and the walks of functions, part 8. -/
import Derived.WideShapes
import Derived.Below
import Derived.ChangeSame
import Derived.WalkKit
import Derived.ProofKit
import Derived.Carry
import Derived.Conc.LeavingOf
import Derived.Test.YtclnogfmmekooaaProg
import Derived.Deep.Slices
import Derived.ChangeSlices
import Derived.ChangeArms
import Derived.RangeFuncNested
import Derived.RangeFuncBound
import Derived.RangeFuncCalls
import Derived.RangeFuncLeaves
import Derived.Shelf.Abstract
import Derived.Shelf.RegionOpen
import Derived.OwnWalkIn
import Derived.TacticsInMore
import Derived.LoopNIn
import Derived.LoopIn
import Derived.Test.YtclnogfmmekooaaZ7
namespace Go.Proofs.Ytclnogfmmekooaa
set_option linter.unusedVariables false
set_option linter.unusedSimpArgs false
open Go.RowKit Go.Maps
set_option maxHeartbeats 400000
def evFine (e : Ev) : Prop := (1 ≤ e.kind ∧ e.kind ≤ 4) ∧ (1 ≤ e.a ∧ e.a ≤ 6) ∧ (0 ≤ e.b ∧ e.b ≤ 9) ∧ (0 ≤ e.c ∧ e.c ≤ 9)
set_option maxHeartbeats 4000000 in
set_option maxRecDepth 100000 in
theorem spec_l71Event (B R m : Nat) (w : World) (hm : m ≤ 900000) (hR : Rd w B R m) :
 Calls Try.prog 87 #[.pointer (some ⟨R, 0, none⟩)] w fun e w' => ∃ x : Ev, e = .returned (.agg #[.int .i64 x.kind, .int .i64 x.a, .int .i64 x.b, .int .i64 x.c, .bool x.torn]) ∧ evFine x ∧ Rd w' B R (m + 7) ∧ Agr (· = R) w w' := by
 have hRl := hR.lt
 have hq := Row.new w #[.int .i64 0, .int .i64 0, .int .i64 0, .int .i64 0, .bool false] 134
 obtain ⟨q0, f0⟩ := hq.at0 (j := 0) rfl
 obtain ⟨q1, f1⟩ := hq.at0 (j := 1) rfl
 obtain ⟨q2, f2⟩ := hq.at0 (j := 2) rfl
 obtain ⟨q3, f3⟩ := hq.at0 (j := 3) rfl
 obtain ⟨q4, f4⟩ := hq.at0 (j := 4) rfl
 have hR0 := hR.alloc (.cells #[.int .i64 0, .int .i64 0, .int .i64 0, .int .i64 0, .bool false] 134)
 have hA0 : Agr (· = R) w (w.alloc (.cells #[.int .i64 0, .int .i64 0, .int .i64 0, .int .i64 0, .bool false] 134)) := (Agr.refl _ _).alloc _
 have hs0 : w.heap.size < (w.alloc (.cells #[.int .i64 0, .int .i64 0, .int .i64 0, .int .i64 0, .bool false] 134)).heap.size := by simp
 have hne : ¬ w.heap.size = R := by omega
 clear hq
 go_enter Try.func87, Try.ntmps87
 go_wp2_with fail
 refine (spec_pickI 6 6 B R (m + 0) _ rfl (by omega) (by omega) (by omega) hR0).mono ?_
 rintro e w1 ⟨k1, rfl, hk1, hR1, hB1⟩
 replace q0 := (hB1.cell hs0 hne 0).trans q0
 replace f0 := (hB1.fz hs0 hne 0).trans f0
 replace q1 := (hB1.cell hs0 hne 1).trans q1
 replace f1 := (hB1.fz hs0 hne 1).trans f1
 replace q2 := (hB1.cell hs0 hne 2).trans q2
 replace f2 := (hB1.fz hs0 hne 2).trans f2
 replace q3 := (hB1.cell hs0 hne 3).trans q3
 replace f3 := (hB1.fz hs0 hne 3).trans f3
 replace q4 := (hB1.cell hs0 hne 4).trans q4
 replace f4 := (hB1.fz hs0 hne 4).trans f4
 have hs1 : w.heap.size < w1.heap.size := Nat.lt_of_lt_of_le hs0 hB1.size
 have hA1 := hA0.trans hB1 (fun _ _ h => h)
 have e1 : IntKind.i64.wrap (1 + (k1 : Int)) = 1 + k1 := IntWalk.i64_in _ (by omega)
 clear hR0 hA0 hs0 hB1
 go_wp2_with fail
 refine (spec_pickI 10 10 B R (m + 1) _ rfl (by omega) (by omega) (by omega) hR1).mono ?_
 rintro e w2 ⟨k2, rfl, hk2, hR2, hB2⟩
 replace q0 := (hB2.cell hs1 hne 0).trans q0
 replace f0 := (hB2.fz hs1 hne 0).trans f0
 replace q1 := (hB2.cell hs1 hne 1).trans q1
 replace f1 := (hB2.fz hs1 hne 1).trans f1
 replace q2 := (hB2.cell hs1 hne 2).trans q2
 replace f2 := (hB2.fz hs1 hne 2).trans f2
 replace q3 := (hB2.cell hs1 hne 3).trans q3
 replace f3 := (hB2.fz hs1 hne 3).trans f3
 replace q4 := (hB2.cell hs1 hne 4).trans q4
 replace f4 := (hB2.fz hs1 hne 4).trans f4
 have hs2 : w.heap.size < w2.heap.size := Nat.lt_of_lt_of_le hs1 hB2.size
 have hA2 := hA1.trans hB2 (fun _ _ h => h)
 clear hR1 hA1 hs1 hB2
 obtain ⟨n4, hn4⟩ : ∃ n, n = w2.heap.size := ⟨_, rfl⟩
 have hx := Row.new w2 #[.int .i64 1, .int .i64 (1 + k1), .int .i64 k2, .int .i64 9, .bool false] 134
 obtain ⟨x0, y0⟩ := hx.at0 (j := 0) rfl
 obtain ⟨x1, y1⟩ := hx.at0 (j := 1) rfl
 obtain ⟨x2, y2⟩ := hx.at0 (j := 2) rfl
 obtain ⟨x3, y3⟩ := hx.at0 (j := 3) rfl
 obtain ⟨x4, y4⟩ := hx.at0 (j := 4) rfl
 have hq2 : ∀ (i : Nat) u, w2.cell? ⟨w.heap.size, i, none⟩ = u → (w2.alloc (.cells #[.int .i64 1, .int .i64 (1 + k1), .int .i64 k2, .int .i64 9, .bool false] 134)).cell? ⟨w.heap.size, i, none⟩ = u := fun i u h => (((Below.refl w2.heap.size w2).alloc (Nat.le_refl _) _).cell (p := ⟨w.heap.size, i, none⟩) hs2).trans h
 have hf2 : ∀ (i : Nat) u, w2.frozen? ⟨w.heap.size, i, none⟩ = u → (w2.alloc (.cells #[.int .i64 1, .int .i64 (1 + k1), .int .i64 k2, .int .i64 9, .bool false] 134)).frozen? ⟨w.heap.size, i, none⟩ = u := fun i u h => (((Below.refl w2.heap.size w2).alloc (Nat.le_refl _) _).frozen (p := ⟨w.heap.size, i, none⟩) hs2).trans h
 replace q0 := hq2 0 _ q0
 replace f0 := hf2 0 _ f0
 replace q1 := hq2 1 _ q1
 replace f1 := hf2 1 _ f1
 replace q2 := hq2 2 _ q2
 replace f2 := hf2 2 _ f2
 replace q3 := hq2 3 _ q3
 replace f3 := hf2 3 _ f3
 replace q4 := hq2 4 _ q4
 replace f4 := hf2 4 _ f4
 have hs4' : w2.heap.size < (w2.alloc (.cells #[.int .i64 1, .int .i64 (1 + k1), .int .i64 k2, .int .i64 9, .bool false] 134)).heap.size := by simp
 have hs4'' : w.heap.size < (w2.alloc (.cells #[.int .i64 1, .int .i64 (1 + k1), .int .i64 k2, .int .i64 9, .bool false] 134)).heap.size := by simp; omega
 have hne4 : ¬ w2.heap.size = R := by omega
 have hAa : Agr (· = R) w (w2.alloc (.cells #[.int .i64 1, .int .i64 (1 + k1), .int .i64 k2, .int .i64 9, .bool false] 134)) := hA2.alloc _
 clear hx hq2 hf2
 go_wp2_with fail
 refine (spec_pickI 12 12 B R (m + 2) _ rfl (by omega) (by omega) (by omega) (hR2.alloc _)).mono ?_
 rintro e w3 ⟨k3, rfl, hk3, hR3, hB3⟩
 replace q0 := (hB3.cell hs4'' hne 0).trans q0
 replace f0 := (hB3.fz hs4'' hne 0).trans f0
 replace x0 := (hB3.cell hs4' hne4 0).trans x0
 replace y0 := (hB3.fz hs4' hne4 0).trans y0
 replace q1 := (hB3.cell hs4'' hne 1).trans q1
 replace f1 := (hB3.fz hs4'' hne 1).trans f1
 replace x1 := (hB3.cell hs4' hne4 1).trans x1
 replace y1 := (hB3.fz hs4' hne4 1).trans y1
 replace q2 := (hB3.cell hs4'' hne 2).trans q2
 replace f2 := (hB3.fz hs4'' hne 2).trans f2
 replace x2 := (hB3.cell hs4' hne4 2).trans x2
 replace y2 := (hB3.fz hs4' hne4 2).trans y2
 replace q3 := (hB3.cell hs4'' hne 3).trans q3
 replace f3 := (hB3.fz hs4'' hne 3).trans f3
 replace x3 := (hB3.cell hs4' hne4 3).trans x3
 replace y3 := (hB3.fz hs4' hne4 3).trans y3
 replace q4 := (hB3.cell hs4'' hne 4).trans q4
 replace f4 := (hB3.fz hs4'' hne 4).trans f4
 replace x4 := (hB3.cell hs4' hne4 4).trans x4
 replace y4 := (hB3.fz hs4' hne4 4).trans y4
 have hs3 : w2.heap.size < w3.heap.size := Nat.lt_of_lt_of_le hs4' hB3.size
 have hA3 := hAa.trans hB3 (fun _ _ h => h)
 have hs6 : w.heap.size < n4 := by omega
 rw [← hn4] at *
 have hs3' : w.heap.size < w3.heap.size := by omega
 clear hAa hB3 hA2 hR2 hs4' hs4'' hn4
 by_cases h0 : k3 < 3
 · have h01 : k3 = 0 ∨ k3 = 1 ∨ k3 = 2 := by omega
   clear h0
   rcases h01 with rfl | rfl | rfl
   · clear hk3
     go_wp2_with fail
     have hW := wrote_one x0 (.int .i64 2)
     have hRs : Rd (w3.setCell ⟨n4, 0, none⟩ (.int .i64 2)) B R (m + 3) := hR3.agr hW.agr (by omega) (fun b hb e => by have := hR3.le; omega)
     have hAs : Agr (· = R) w (w3.setCell ⟨n4, 0, none⟩ (.int .i64 2)) := hA3.setCell (.inl (by show w.heap.size ≤ n4; omega)) _
     have x0n : (w3.setCell ⟨n4, 0, none⟩ (.int .i64 2)).cell? ⟨n4, 0, none⟩ = some (.int .i64 2) := hW.new_ 0 _ rfl
     replace q0 := (hW.agr.cell (b := w.heap.size) (by omega) (by omega) 0).trans q0
     replace f0 := (hW.frozen ⟨w.heap.size, 0, none⟩).trans f0
     replace y0 := (hW.frozen ⟨n4, 0, none⟩).trans y0
     replace q1 := (hW.agr.cell (b := w.heap.size) (by omega) (by omega) 1).trans q1
     replace f1 := (hW.frozen ⟨w.heap.size, 1, none⟩).trans f1
     replace x1 := (hW.old_ 1 (by simp)).trans x1
     replace y1 := (hW.frozen ⟨n4, 1, none⟩).trans y1
     replace q2 := (hW.agr.cell (b := w.heap.size) (by omega) (by omega) 2).trans q2
     replace f2 := (hW.frozen ⟨w.heap.size, 2, none⟩).trans f2
     replace x2 := (hW.old_ 2 (by simp)).trans x2
     replace y2 := (hW.frozen ⟨n4, 2, none⟩).trans y2
     replace q3 := (hW.agr.cell (b := w.heap.size) (by omega) (by omega) 3).trans q3
     replace f3 := (hW.frozen ⟨w.heap.size, 3, none⟩).trans f3
     replace x3 := (hW.old_ 3 (by simp)).trans x3
     replace y3 := (hW.frozen ⟨n4, 3, none⟩).trans y3
     replace q4 := (hW.agr.cell (b := w.heap.size) (by omega) (by omega) 4).trans q4
     replace f4 := (hW.frozen ⟨w.heap.size, 4, none⟩).trans f4
     replace x4 := (hW.old_ 4 (by simp)).trans x4
     replace y4 := (hW.frozen ⟨n4, 4, none⟩).trans y4
     replace x0 := x0n
     have hsa : n4 < (w3.setCell ⟨n4, 0, none⟩ (.int .i64 2)).heap.size := by simpa using hs3
     have hsb : w.heap.size < (w3.setCell ⟨n4, 0, none⟩ (.int .i64 2)).heap.size := by simpa using hs3'
     clear hW x0n hR3 hA3
     refine (spec_pickI 4 4 B R (m + 3) _ rfl (by omega) (by omega) (by omega) hRs).mono ?_
     rintro e w5 ⟨k5, rfl, hk5, hR5, hB5⟩
     replace q0 := (hB5.cell hsb hne 0).trans q0
     replace f0 := (hB5.fz hsb hne 0).trans f0
     replace x0 := (hB5.cell hsa hne4 0).trans x0
     replace y0 := (hB5.fz hsa hne4 0).trans y0
     replace q1 := (hB5.cell hsb hne 1).trans q1
     replace f1 := (hB5.fz hsb hne 1).trans f1
     replace x1 := (hB5.cell hsa hne4 1).trans x1
     replace y1 := (hB5.fz hsa hne4 1).trans y1
     replace q2 := (hB5.cell hsb hne 2).trans q2
     replace f2 := (hB5.fz hsb hne 2).trans f2
     replace x2 := (hB5.cell hsa hne4 2).trans x2
     replace y2 := (hB5.fz hsa hne4 2).trans y2
     replace q3 := (hB5.cell hsb hne 3).trans q3
     replace f3 := (hB5.fz hsb hne 3).trans f3
     replace x3 := (hB5.cell hsa hne4 3).trans x3
     replace y3 := (hB5.fz hsa hne4 3).trans y3
     replace q4 := (hB5.cell hsb hne 4).trans q4
     replace f4 := (hB5.fz hsb hne 4).trans f4
     replace x4 := (hB5.cell hsa hne4 4).trans x4
     replace y4 := (hB5.fz hsa hne4 4).trans y4
     have hA5 := hAs.trans hB5 (fun _ _ h => h)
     have hs5 : n4 < w5.heap.size := Nat.lt_of_lt_of_le hsa hB5.size
     have hs5' : w.heap.size < w5.heap.size := by omega
     clear hB5 hAs hRs
     by_cases h5 : k5 = 0
     · have t5 : ((k5 : Int) == 0) = true := by subst h5; rfl
       clear h5
       go_wp2_with fail
       refine (spec_pickI 5 5 B R (m + 4) _ rfl (by omega) (by omega) (by omega) hR5).mono ?_
       rintro e w6 ⟨k6, rfl, hk6, hR6, hB6⟩
       replace q0 := (hB6.cell hs5' hne 0).trans q0
       replace f0 := (hB6.fz hs5' hne 0).trans f0
       replace x0 := (hB6.cell hs5 hne4 0).trans x0
       replace y0 := (hB6.fz hs5 hne4 0).trans y0
       replace q1 := (hB6.cell hs5' hne 1).trans q1
       replace f1 := (hB6.fz hs5' hne 1).trans f1
       replace x1 := (hB6.cell hs5 hne4 1).trans x1
       replace y1 := (hB6.fz hs5 hne4 1).trans y1
       replace q2 := (hB6.cell hs5' hne 2).trans q2
       replace f2 := (hB6.fz hs5' hne 2).trans f2
       replace x2 := (hB6.cell hs5 hne4 2).trans x2
       replace y2 := (hB6.fz hs5 hne4 2).trans y2
       replace q3 := (hB6.cell hs5' hne 3).trans q3
       replace f3 := (hB6.fz hs5' hne 3).trans f3
       replace x3 := (hB6.cell hs5 hne4 3).trans x3
       replace y3 := (hB6.fz hs5 hne4 3).trans y3
       replace q4 := (hB6.cell hs5' hne 4).trans q4
       replace f4 := (hB6.fz hs5' hne 4).trans f4
       replace x4 := (hB6.cell hs5 hne4 4).trans x4
       replace y4 := (hB6.fz hs5 hne4 4).trans y4
       have hA6 := hA5.trans hB6 (fun _ _ h => h)
       have hs6a : n4 < w6.heap.size := Nat.lt_of_lt_of_le hs5 hB6.size
       have hs6b : w.heap.size < w6.heap.size := by omega
       go_wp2_with fail
       have hW := wrote_one x3 (.int .i64 k6)
       have hR6s : Rd (w6.setCell ⟨n4, 3, none⟩ (.int .i64 k6)) B R (m + 5) := hR6.agr hW.agr (by omega) (fun b hb e => by have := hR6.le; omega)
       have hA6s : Agr (· = R) w (w6.setCell ⟨n4, 3, none⟩ (.int .i64 k6)) := hA6.setCell (.inl (by show w.heap.size ≤ n4; omega)) _
       have x3n : (w6.setCell ⟨n4, 3, none⟩ (.int .i64 k6)).cell? ⟨n4, 3, none⟩ = some (.int .i64 k6) := hW.new_ 0 _ rfl
       replace q0 := (hW.agr.cell (b := w.heap.size) (by omega) (by omega) 0).trans q0
       replace f0 := (hW.frozen ⟨w.heap.size, 0, none⟩).trans f0
       replace x0 := (hW.old_ 0 (by simp)).trans x0
       replace y0 := (hW.frozen ⟨n4, 0, none⟩).trans y0
       replace q1 := (hW.agr.cell (b := w.heap.size) (by omega) (by omega) 1).trans q1
       replace f1 := (hW.frozen ⟨w.heap.size, 1, none⟩).trans f1
       replace x1 := (hW.old_ 1 (by simp)).trans x1
       replace y1 := (hW.frozen ⟨n4, 1, none⟩).trans y1
       replace q2 := (hW.agr.cell (b := w.heap.size) (by omega) (by omega) 2).trans q2
       replace f2 := (hW.frozen ⟨w.heap.size, 2, none⟩).trans f2
       replace x2 := (hW.old_ 2 (by simp)).trans x2
       replace y2 := (hW.frozen ⟨n4, 2, none⟩).trans y2
       replace q3 := (hW.agr.cell (b := w.heap.size) (by omega) (by omega) 3).trans q3
       replace f3 := (hW.frozen ⟨w.heap.size, 3, none⟩).trans f3
       replace y3 := (hW.frozen ⟨n4, 3, none⟩).trans y3
       replace q4 := (hW.agr.cell (b := w.heap.size) (by omega) (by omega) 4).trans q4
       replace f4 := (hW.frozen ⟨w.heap.size, 4, none⟩).trans f4
       replace x4 := (hW.old_ 4 (by simp)).trans x4
       replace y4 := (hW.frozen ⟨n4, 4, none⟩).trans y4
       replace x3 := x3n
       have hs7 : n4 < (w6.setCell ⟨n4, 3, none⟩ (.int .i64 k6)).heap.size := by simpa using hs6a
       have hs7' : w.heap.size < (w6.setCell ⟨n4, 3, none⟩ (.int .i64 k6)).heap.size := by simpa using hs6b
       clear hW x3n hB6 hR6 hA6 hA5 hR5
       refine (spec_pickI 3 3 B R (m + 5) _ rfl (by omega) (by omega) (by omega) hR6s).mono ?_
       rintro e w7 ⟨k7, rfl, hk7, hR7, hB7⟩
       replace q0 := (hB7.cell hs7' hne 0).trans q0
       replace f0 := (hB7.fz hs7' hne 0).trans f0
       replace x0 := (hB7.cell hs7 hne4 0).trans x0
       replace y0 := (hB7.fz hs7 hne4 0).trans y0
       replace q1 := (hB7.cell hs7' hne 1).trans q1
       replace f1 := (hB7.fz hs7' hne 1).trans f1
       replace x1 := (hB7.cell hs7 hne4 1).trans x1
       replace y1 := (hB7.fz hs7 hne4 1).trans y1
       replace q2 := (hB7.cell hs7' hne 2).trans q2
       replace f2 := (hB7.fz hs7' hne 2).trans f2
       replace x2 := (hB7.cell hs7 hne4 2).trans x2
       replace y2 := (hB7.fz hs7 hne4 2).trans y2
       replace q3 := (hB7.cell hs7' hne 3).trans q3
       replace f3 := (hB7.fz hs7' hne 3).trans f3
       replace x3 := (hB7.cell hs7 hne4 3).trans x3
       replace y3 := (hB7.fz hs7 hne4 3).trans y3
       replace q4 := (hB7.cell hs7' hne 4).trans q4
       replace f4 := (hB7.fz hs7' hne 4).trans f4
       replace x4 := (hB7.cell hs7 hne4 4).trans x4
       replace y4 := (hB7.fz hs7 hne4 4).trans y4
       have hA7 := hA6s.trans hB7 (fun _ _ h => h)
       have hs7a : n4 < w7.heap.size := Nat.lt_of_lt_of_le hs7 hB7.size
       have hs7b : w.heap.size < w7.heap.size := by omega
       clear hB7 hR6s hA6s hs7 hs7'
       go_wp2
       refine bodyPost_ret (v := .agg #[.int .i64 (2), .int .i64 (1 + (k1 : Int)), .int .i64 ((k2 : Int)), .int .i64 ((k6 : Int)), .bool (decide ((0 : Int) < k7))]) (by simp [results, Try.results87, go_sem, q0, q1, q2, q3, q4]) rfl ⟨⟨2, 1 + (k1 : Int), (k2 : Int), (k6 : Int), decide ((0 : Int) < k7)⟩, rfl, ⟨⟨by dsimp only; omega, by dsimp only; omega⟩, ⟨by dsimp only; omega, by dsimp only; omega⟩, ⟨by dsimp only; omega, by dsimp only; omega⟩, ⟨by dsimp only; omega, by dsimp only; omega⟩⟩, ?_, ?_⟩
       · refine (Rd.high (L := w.heap.size) hR7 ?_ hRl).mono (by omega)
         repeat (with_reducible refine Agr.setCell ?_ (.inr (by first | exact Nat.le_refl _ | (show w.heap.size ≤ n4; omega))) _)
         with_reducible exact Agr.refl _ _
       · repeat (with_reducible refine Agr.setCell ?_ (.inl (by first | exact Nat.le_refl _ | (show w.heap.size ≤ n4; omega))) _)
         with_reducible exact hA7
     · have t5 : ((k5 : Int) == 0) = false := by rw [beq_eq_false_iff_ne]; omega
       clear h5
       go_wp2
       refine bodyPost_ret (v := .agg #[.int .i64 (2), .int .i64 (1 + (k1 : Int)), .int .i64 ((k2 : Int)), .int .i64 (9), .bool (false)]) (by simp [results, Try.results87, go_sem, q0, q1, q2, q3, q4]) rfl ⟨⟨2, 1 + (k1 : Int), (k2 : Int), 9, false⟩, rfl, ⟨⟨by dsimp only; omega, by dsimp only; omega⟩, ⟨by dsimp only; omega, by dsimp only; omega⟩, ⟨by dsimp only; omega, by dsimp only; omega⟩, ⟨by dsimp only; omega, by dsimp only; omega⟩⟩, ?_, ?_⟩
       · refine (Rd.high (L := w.heap.size) hR5 ?_ hRl).mono (by omega)
         repeat (with_reducible refine Agr.setCell ?_ (.inr (by first | exact Nat.le_refl _ | (show w.heap.size ≤ n4; omega))) _)
         with_reducible exact Agr.refl _ _
       · repeat (with_reducible refine Agr.setCell ?_ (.inl (by first | exact Nat.le_refl _ | (show w.heap.size ≤ n4; omega))) _)
         with_reducible exact hA5

   · clear hk3
     go_wp2_with fail
     have hW := wrote_one x0 (.int .i64 2)
     have hRs : Rd (w3.setCell ⟨n4, 0, none⟩ (.int .i64 2)) B R (m + 3) := hR3.agr hW.agr (by omega) (fun b hb e => by have := hR3.le; omega)
     have hAs : Agr (· = R) w (w3.setCell ⟨n4, 0, none⟩ (.int .i64 2)) := hA3.setCell (.inl (by show w.heap.size ≤ n4; omega)) _
     have x0n : (w3.setCell ⟨n4, 0, none⟩ (.int .i64 2)).cell? ⟨n4, 0, none⟩ = some (.int .i64 2) := hW.new_ 0 _ rfl
     replace q0 := (hW.agr.cell (b := w.heap.size) (by omega) (by omega) 0).trans q0
     replace f0 := (hW.frozen ⟨w.heap.size, 0, none⟩).trans f0
     replace y0 := (hW.frozen ⟨n4, 0, none⟩).trans y0
     replace q1 := (hW.agr.cell (b := w.heap.size) (by omega) (by omega) 1).trans q1
     replace f1 := (hW.frozen ⟨w.heap.size, 1, none⟩).trans f1
     replace x1 := (hW.old_ 1 (by simp)).trans x1
     replace y1 := (hW.frozen ⟨n4, 1, none⟩).trans y1
     replace q2 := (hW.agr.cell (b := w.heap.size) (by omega) (by omega) 2).trans q2
     replace f2 := (hW.frozen ⟨w.heap.size, 2, none⟩).trans f2
     replace x2 := (hW.old_ 2 (by simp)).trans x2
     replace y2 := (hW.frozen ⟨n4, 2, none⟩).trans y2
     replace q3 := (hW.agr.cell (b := w.heap.size) (by omega) (by omega) 3).trans q3
     replace f3 := (hW.frozen ⟨w.heap.size, 3, none⟩).trans f3
     replace x3 := (hW.old_ 3 (by simp)).trans x3
     replace y3 := (hW.frozen ⟨n4, 3, none⟩).trans y3
     replace q4 := (hW.agr.cell (b := w.heap.size) (by omega) (by omega) 4).trans q4
     replace f4 := (hW.frozen ⟨w.heap.size, 4, none⟩).trans f4
     replace x4 := (hW.old_ 4 (by simp)).trans x4
     replace y4 := (hW.frozen ⟨n4, 4, none⟩).trans y4
     replace x0 := x0n
     have hsa : n4 < (w3.setCell ⟨n4, 0, none⟩ (.int .i64 2)).heap.size := by simpa using hs3
     have hsb : w.heap.size < (w3.setCell ⟨n4, 0, none⟩ (.int .i64 2)).heap.size := by simpa using hs3'
     clear hW x0n hR3 hA3
     refine (spec_pickI 4 4 B R (m + 3) _ rfl (by omega) (by omega) (by omega) hRs).mono ?_
     rintro e w5 ⟨k5, rfl, hk5, hR5, hB5⟩
     replace q0 := (hB5.cell hsb hne 0).trans q0
     replace f0 := (hB5.fz hsb hne 0).trans f0
     replace x0 := (hB5.cell hsa hne4 0).trans x0
     replace y0 := (hB5.fz hsa hne4 0).trans y0
     replace q1 := (hB5.cell hsb hne 1).trans q1
     replace f1 := (hB5.fz hsb hne 1).trans f1
     replace x1 := (hB5.cell hsa hne4 1).trans x1
     replace y1 := (hB5.fz hsa hne4 1).trans y1
     replace q2 := (hB5.cell hsb hne 2).trans q2
     replace f2 := (hB5.fz hsb hne 2).trans f2
     replace x2 := (hB5.cell hsa hne4 2).trans x2
     replace y2 := (hB5.fz hsa hne4 2).trans y2
     replace q3 := (hB5.cell hsb hne 3).trans q3
     replace f3 := (hB5.fz hsb hne 3).trans f3
     replace x3 := (hB5.cell hsa hne4 3).trans x3
     replace y3 := (hB5.fz hsa hne4 3).trans y3
     replace q4 := (hB5.cell hsb hne 4).trans q4
     replace f4 := (hB5.fz hsb hne 4).trans f4
     replace x4 := (hB5.cell hsa hne4 4).trans x4
     replace y4 := (hB5.fz hsa hne4 4).trans y4
     have hA5 := hAs.trans hB5 (fun _ _ h => h)
     have hs5 : n4 < w5.heap.size := Nat.lt_of_lt_of_le hsa hB5.size
     have hs5' : w.heap.size < w5.heap.size := by omega
     clear hB5 hAs hRs
     by_cases h5 : k5 = 0
     · have t5 : ((k5 : Int) == 0) = true := by subst h5; rfl
       clear h5
       go_wp2_with fail
       refine (spec_pickI 5 5 B R (m + 4) _ rfl (by omega) (by omega) (by omega) hR5).mono ?_
       rintro e w6 ⟨k6, rfl, hk6, hR6, hB6⟩
       replace q0 := (hB6.cell hs5' hne 0).trans q0
       replace f0 := (hB6.fz hs5' hne 0).trans f0
       replace x0 := (hB6.cell hs5 hne4 0).trans x0
       replace y0 := (hB6.fz hs5 hne4 0).trans y0
       replace q1 := (hB6.cell hs5' hne 1).trans q1
       replace f1 := (hB6.fz hs5' hne 1).trans f1
       replace x1 := (hB6.cell hs5 hne4 1).trans x1
       replace y1 := (hB6.fz hs5 hne4 1).trans y1
       replace q2 := (hB6.cell hs5' hne 2).trans q2
       replace f2 := (hB6.fz hs5' hne 2).trans f2
       replace x2 := (hB6.cell hs5 hne4 2).trans x2
       replace y2 := (hB6.fz hs5 hne4 2).trans y2
       replace q3 := (hB6.cell hs5' hne 3).trans q3
       replace f3 := (hB6.fz hs5' hne 3).trans f3
       replace x3 := (hB6.cell hs5 hne4 3).trans x3
       replace y3 := (hB6.fz hs5 hne4 3).trans y3
       replace q4 := (hB6.cell hs5' hne 4).trans q4
       replace f4 := (hB6.fz hs5' hne 4).trans f4
       replace x4 := (hB6.cell hs5 hne4 4).trans x4
       replace y4 := (hB6.fz hs5 hne4 4).trans y4
       have hA6 := hA5.trans hB6 (fun _ _ h => h)
       have hs6a : n4 < w6.heap.size := Nat.lt_of_lt_of_le hs5 hB6.size
       have hs6b : w.heap.size < w6.heap.size := by omega
       go_wp2_with fail
       have hW := wrote_one x3 (.int .i64 k6)
       have hR6s : Rd (w6.setCell ⟨n4, 3, none⟩ (.int .i64 k6)) B R (m + 5) := hR6.agr hW.agr (by omega) (fun b hb e => by have := hR6.le; omega)
       have hA6s : Agr (· = R) w (w6.setCell ⟨n4, 3, none⟩ (.int .i64 k6)) := hA6.setCell (.inl (by show w.heap.size ≤ n4; omega)) _
       have x3n : (w6.setCell ⟨n4, 3, none⟩ (.int .i64 k6)).cell? ⟨n4, 3, none⟩ = some (.int .i64 k6) := hW.new_ 0 _ rfl
       replace q0 := (hW.agr.cell (b := w.heap.size) (by omega) (by omega) 0).trans q0
       replace f0 := (hW.frozen ⟨w.heap.size, 0, none⟩).trans f0
       replace x0 := (hW.old_ 0 (by simp)).trans x0
       replace y0 := (hW.frozen ⟨n4, 0, none⟩).trans y0
       replace q1 := (hW.agr.cell (b := w.heap.size) (by omega) (by omega) 1).trans q1
       replace f1 := (hW.frozen ⟨w.heap.size, 1, none⟩).trans f1
       replace x1 := (hW.old_ 1 (by simp)).trans x1
       replace y1 := (hW.frozen ⟨n4, 1, none⟩).trans y1
       replace q2 := (hW.agr.cell (b := w.heap.size) (by omega) (by omega) 2).trans q2
       replace f2 := (hW.frozen ⟨w.heap.size, 2, none⟩).trans f2
       replace x2 := (hW.old_ 2 (by simp)).trans x2
       replace y2 := (hW.frozen ⟨n4, 2, none⟩).trans y2
       replace q3 := (hW.agr.cell (b := w.heap.size) (by omega) (by omega) 3).trans q3
       replace f3 := (hW.frozen ⟨w.heap.size, 3, none⟩).trans f3
       replace y3 := (hW.frozen ⟨n4, 3, none⟩).trans y3
       replace q4 := (hW.agr.cell (b := w.heap.size) (by omega) (by omega) 4).trans q4
       replace f4 := (hW.frozen ⟨w.heap.size, 4, none⟩).trans f4
       replace x4 := (hW.old_ 4 (by simp)).trans x4
       replace y4 := (hW.frozen ⟨n4, 4, none⟩).trans y4
       replace x3 := x3n
       have hs7 : n4 < (w6.setCell ⟨n4, 3, none⟩ (.int .i64 k6)).heap.size := by simpa using hs6a
       have hs7' : w.heap.size < (w6.setCell ⟨n4, 3, none⟩ (.int .i64 k6)).heap.size := by simpa using hs6b
       clear hW x3n hB6 hR6 hA6 hA5 hR5
       refine (spec_pickI 3 3 B R (m + 5) _ rfl (by omega) (by omega) (by omega) hR6s).mono ?_
       rintro e w7 ⟨k7, rfl, hk7, hR7, hB7⟩
       replace q0 := (hB7.cell hs7' hne 0).trans q0
       replace f0 := (hB7.fz hs7' hne 0).trans f0
       replace x0 := (hB7.cell hs7 hne4 0).trans x0
       replace y0 := (hB7.fz hs7 hne4 0).trans y0
       replace q1 := (hB7.cell hs7' hne 1).trans q1
       replace f1 := (hB7.fz hs7' hne 1).trans f1
       replace x1 := (hB7.cell hs7 hne4 1).trans x1
       replace y1 := (hB7.fz hs7 hne4 1).trans y1
       replace q2 := (hB7.cell hs7' hne 2).trans q2
       replace f2 := (hB7.fz hs7' hne 2).trans f2
       replace x2 := (hB7.cell hs7 hne4 2).trans x2
       replace y2 := (hB7.fz hs7 hne4 2).trans y2
       replace q3 := (hB7.cell hs7' hne 3).trans q3
       replace f3 := (hB7.fz hs7' hne 3).trans f3
       replace x3 := (hB7.cell hs7 hne4 3).trans x3
       replace y3 := (hB7.fz hs7 hne4 3).trans y3
       replace q4 := (hB7.cell hs7' hne 4).trans q4
       replace f4 := (hB7.fz hs7' hne 4).trans f4
       replace x4 := (hB7.cell hs7 hne4 4).trans x4
       replace y4 := (hB7.fz hs7 hne4 4).trans y4
       have hA7 := hA6s.trans hB7 (fun _ _ h => h)
       have hs7a : n4 < w7.heap.size := Nat.lt_of_lt_of_le hs7 hB7.size
       have hs7b : w.heap.size < w7.heap.size := by omega
       clear hB7 hR6s hA6s hs7 hs7'
       go_wp2
       refine bodyPost_ret (v := .agg #[.int .i64 (2), .int .i64 (1 + (k1 : Int)), .int .i64 ((k2 : Int)), .int .i64 ((k6 : Int)), .bool (decide ((0 : Int) < k7))]) (by simp [results, Try.results87, go_sem, q0, q1, q2, q3, q4]) rfl ⟨⟨2, 1 + (k1 : Int), (k2 : Int), (k6 : Int), decide ((0 : Int) < k7)⟩, rfl, ⟨⟨by dsimp only; omega, by dsimp only; omega⟩, ⟨by dsimp only; omega, by dsimp only; omega⟩, ⟨by dsimp only; omega, by dsimp only; omega⟩, ⟨by dsimp only; omega, by dsimp only; omega⟩⟩, ?_, ?_⟩
       · refine (Rd.high (L := w.heap.size) hR7 ?_ hRl).mono (by omega)
         repeat (with_reducible refine Agr.setCell ?_ (.inr (by first | exact Nat.le_refl _ | (show w.heap.size ≤ n4; omega))) _)
         with_reducible exact Agr.refl _ _
       · repeat (with_reducible refine Agr.setCell ?_ (.inl (by first | exact Nat.le_refl _ | (show w.heap.size ≤ n4; omega))) _)
         with_reducible exact hA7
     · have t5 : ((k5 : Int) == 0) = false := by rw [beq_eq_false_iff_ne]; omega
       clear h5
       go_wp2
       refine bodyPost_ret (v := .agg #[.int .i64 (2), .int .i64 (1 + (k1 : Int)), .int .i64 ((k2 : Int)), .int .i64 (9), .bool (false)]) (by simp [results, Try.results87, go_sem, q0, q1, q2, q3, q4]) rfl ⟨⟨2, 1 + (k1 : Int), (k2 : Int), 9, false⟩, rfl, ⟨⟨by dsimp only; omega, by dsimp only; omega⟩, ⟨by dsimp only; omega, by dsimp only; omega⟩, ⟨by dsimp only; omega, by dsimp only; omega⟩, ⟨by dsimp only; omega, by dsimp only; omega⟩⟩, ?_, ?_⟩
       · refine (Rd.high (L := w.heap.size) hR5 ?_ hRl).mono (by omega)
         repeat (with_reducible refine Agr.setCell ?_ (.inr (by first | exact Nat.le_refl _ | (show w.heap.size ≤ n4; omega))) _)
         with_reducible exact Agr.refl _ _
       · repeat (with_reducible refine Agr.setCell ?_ (.inl (by first | exact Nat.le_refl _ | (show w.heap.size ≤ n4; omega))) _)
         with_reducible exact hA5

   · clear hk3
     go_wp2_with fail
     have hW := wrote_one x0 (.int .i64 2)
     have hRs : Rd (w3.setCell ⟨n4, 0, none⟩ (.int .i64 2)) B R (m + 3) := hR3.agr hW.agr (by omega) (fun b hb e => by have := hR3.le; omega)
     have hAs : Agr (· = R) w (w3.setCell ⟨n4, 0, none⟩ (.int .i64 2)) := hA3.setCell (.inl (by show w.heap.size ≤ n4; omega)) _
     have x0n : (w3.setCell ⟨n4, 0, none⟩ (.int .i64 2)).cell? ⟨n4, 0, none⟩ = some (.int .i64 2) := hW.new_ 0 _ rfl
     replace q0 := (hW.agr.cell (b := w.heap.size) (by omega) (by omega) 0).trans q0
     replace f0 := (hW.frozen ⟨w.heap.size, 0, none⟩).trans f0
     replace y0 := (hW.frozen ⟨n4, 0, none⟩).trans y0
     replace q1 := (hW.agr.cell (b := w.heap.size) (by omega) (by omega) 1).trans q1
     replace f1 := (hW.frozen ⟨w.heap.size, 1, none⟩).trans f1
     replace x1 := (hW.old_ 1 (by simp)).trans x1
     replace y1 := (hW.frozen ⟨n4, 1, none⟩).trans y1
     replace q2 := (hW.agr.cell (b := w.heap.size) (by omega) (by omega) 2).trans q2
     replace f2 := (hW.frozen ⟨w.heap.size, 2, none⟩).trans f2
     replace x2 := (hW.old_ 2 (by simp)).trans x2
     replace y2 := (hW.frozen ⟨n4, 2, none⟩).trans y2
     replace q3 := (hW.agr.cell (b := w.heap.size) (by omega) (by omega) 3).trans q3
     replace f3 := (hW.frozen ⟨w.heap.size, 3, none⟩).trans f3
     replace x3 := (hW.old_ 3 (by simp)).trans x3
     replace y3 := (hW.frozen ⟨n4, 3, none⟩).trans y3
     replace q4 := (hW.agr.cell (b := w.heap.size) (by omega) (by omega) 4).trans q4
     replace f4 := (hW.frozen ⟨w.heap.size, 4, none⟩).trans f4
     replace x4 := (hW.old_ 4 (by simp)).trans x4
     replace y4 := (hW.frozen ⟨n4, 4, none⟩).trans y4
     replace x0 := x0n
     have hsa : n4 < (w3.setCell ⟨n4, 0, none⟩ (.int .i64 2)).heap.size := by simpa using hs3
     have hsb : w.heap.size < (w3.setCell ⟨n4, 0, none⟩ (.int .i64 2)).heap.size := by simpa using hs3'
     clear hW x0n hR3 hA3
     refine (spec_pickI 4 4 B R (m + 3) _ rfl (by omega) (by omega) (by omega) hRs).mono ?_
     rintro e w5 ⟨k5, rfl, hk5, hR5, hB5⟩
     replace q0 := (hB5.cell hsb hne 0).trans q0
     replace f0 := (hB5.fz hsb hne 0).trans f0
     replace x0 := (hB5.cell hsa hne4 0).trans x0
     replace y0 := (hB5.fz hsa hne4 0).trans y0
     replace q1 := (hB5.cell hsb hne 1).trans q1
     replace f1 := (hB5.fz hsb hne 1).trans f1
     replace x1 := (hB5.cell hsa hne4 1).trans x1
     replace y1 := (hB5.fz hsa hne4 1).trans y1
     replace q2 := (hB5.cell hsb hne 2).trans q2
     replace f2 := (hB5.fz hsb hne 2).trans f2
     replace x2 := (hB5.cell hsa hne4 2).trans x2
     replace y2 := (hB5.fz hsa hne4 2).trans y2
     replace q3 := (hB5.cell hsb hne 3).trans q3
     replace f3 := (hB5.fz hsb hne 3).trans f3
     replace x3 := (hB5.cell hsa hne4 3).trans x3
     replace y3 := (hB5.fz hsa hne4 3).trans y3
     replace q4 := (hB5.cell hsb hne 4).trans q4
     replace f4 := (hB5.fz hsb hne 4).trans f4
     replace x4 := (hB5.cell hsa hne4 4).trans x4
     replace y4 := (hB5.fz hsa hne4 4).trans y4
     have hA5 := hAs.trans hB5 (fun _ _ h => h)
     have hs5 : n4 < w5.heap.size := Nat.lt_of_lt_of_le hsa hB5.size
     have hs5' : w.heap.size < w5.heap.size := by omega
     clear hB5 hAs hRs
     by_cases h5 : k5 = 0
     · have t5 : ((k5 : Int) == 0) = true := by subst h5; rfl
       clear h5
       go_wp2_with fail
       refine (spec_pickI 5 5 B R (m + 4) _ rfl (by omega) (by omega) (by omega) hR5).mono ?_
       rintro e w6 ⟨k6, rfl, hk6, hR6, hB6⟩
       replace q0 := (hB6.cell hs5' hne 0).trans q0
       replace f0 := (hB6.fz hs5' hne 0).trans f0
       replace x0 := (hB6.cell hs5 hne4 0).trans x0
       replace y0 := (hB6.fz hs5 hne4 0).trans y0
       replace q1 := (hB6.cell hs5' hne 1).trans q1
       replace f1 := (hB6.fz hs5' hne 1).trans f1
       replace x1 := (hB6.cell hs5 hne4 1).trans x1
       replace y1 := (hB6.fz hs5 hne4 1).trans y1
       replace q2 := (hB6.cell hs5' hne 2).trans q2
       replace f2 := (hB6.fz hs5' hne 2).trans f2
       replace x2 := (hB6.cell hs5 hne4 2).trans x2
       replace y2 := (hB6.fz hs5 hne4 2).trans y2
       replace q3 := (hB6.cell hs5' hne 3).trans q3
       replace f3 := (hB6.fz hs5' hne 3).trans f3
       replace x3 := (hB6.cell hs5 hne4 3).trans x3
       replace y3 := (hB6.fz hs5 hne4 3).trans y3
       replace q4 := (hB6.cell hs5' hne 4).trans q4
       replace f4 := (hB6.fz hs5' hne 4).trans f4
       replace x4 := (hB6.cell hs5 hne4 4).trans x4
       replace y4 := (hB6.fz hs5 hne4 4).trans y4
       have hA6 := hA5.trans hB6 (fun _ _ h => h)
       have hs6a : n4 < w6.heap.size := Nat.lt_of_lt_of_le hs5 hB6.size
       have hs6b : w.heap.size < w6.heap.size := by omega
       go_wp2_with fail
       have hW := wrote_one x3 (.int .i64 k6)
       have hR6s : Rd (w6.setCell ⟨n4, 3, none⟩ (.int .i64 k6)) B R (m + 5) := hR6.agr hW.agr (by omega) (fun b hb e => by have := hR6.le; omega)
       have hA6s : Agr (· = R) w (w6.setCell ⟨n4, 3, none⟩ (.int .i64 k6)) := hA6.setCell (.inl (by show w.heap.size ≤ n4; omega)) _
       have x3n : (w6.setCell ⟨n4, 3, none⟩ (.int .i64 k6)).cell? ⟨n4, 3, none⟩ = some (.int .i64 k6) := hW.new_ 0 _ rfl
       replace q0 := (hW.agr.cell (b := w.heap.size) (by omega) (by omega) 0).trans q0
       replace f0 := (hW.frozen ⟨w.heap.size, 0, none⟩).trans f0
       replace x0 := (hW.old_ 0 (by simp)).trans x0
       replace y0 := (hW.frozen ⟨n4, 0, none⟩).trans y0
       replace q1 := (hW.agr.cell (b := w.heap.size) (by omega) (by omega) 1).trans q1
       replace f1 := (hW.frozen ⟨w.heap.size, 1, none⟩).trans f1
       replace x1 := (hW.old_ 1 (by simp)).trans x1
       replace y1 := (hW.frozen ⟨n4, 1, none⟩).trans y1
       replace q2 := (hW.agr.cell (b := w.heap.size) (by omega) (by omega) 2).trans q2
       replace f2 := (hW.frozen ⟨w.heap.size, 2, none⟩).trans f2
       replace x2 := (hW.old_ 2 (by simp)).trans x2
       replace y2 := (hW.frozen ⟨n4, 2, none⟩).trans y2
       replace q3 := (hW.agr.cell (b := w.heap.size) (by omega) (by omega) 3).trans q3
       replace f3 := (hW.frozen ⟨w.heap.size, 3, none⟩).trans f3
       replace y3 := (hW.frozen ⟨n4, 3, none⟩).trans y3
       replace q4 := (hW.agr.cell (b := w.heap.size) (by omega) (by omega) 4).trans q4
       replace f4 := (hW.frozen ⟨w.heap.size, 4, none⟩).trans f4
       replace x4 := (hW.old_ 4 (by simp)).trans x4
       replace y4 := (hW.frozen ⟨n4, 4, none⟩).trans y4
       replace x3 := x3n
       have hs7 : n4 < (w6.setCell ⟨n4, 3, none⟩ (.int .i64 k6)).heap.size := by simpa using hs6a
       have hs7' : w.heap.size < (w6.setCell ⟨n4, 3, none⟩ (.int .i64 k6)).heap.size := by simpa using hs6b
       clear hW x3n hB6 hR6 hA6 hA5 hR5
       refine (spec_pickI 3 3 B R (m + 5) _ rfl (by omega) (by omega) (by omega) hR6s).mono ?_
       rintro e w7 ⟨k7, rfl, hk7, hR7, hB7⟩
       replace q0 := (hB7.cell hs7' hne 0).trans q0
       replace f0 := (hB7.fz hs7' hne 0).trans f0
       replace x0 := (hB7.cell hs7 hne4 0).trans x0
       replace y0 := (hB7.fz hs7 hne4 0).trans y0
       replace q1 := (hB7.cell hs7' hne 1).trans q1
       replace f1 := (hB7.fz hs7' hne 1).trans f1
       replace x1 := (hB7.cell hs7 hne4 1).trans x1
       replace y1 := (hB7.fz hs7 hne4 1).trans y1
       replace q2 := (hB7.cell hs7' hne 2).trans q2
       replace f2 := (hB7.fz hs7' hne 2).trans f2
       replace x2 := (hB7.cell hs7 hne4 2).trans x2
       replace y2 := (hB7.fz hs7 hne4 2).trans y2
       replace q3 := (hB7.cell hs7' hne 3).trans q3
       replace f3 := (hB7.fz hs7' hne 3).trans f3
       replace x3 := (hB7.cell hs7 hne4 3).trans x3
       replace y3 := (hB7.fz hs7 hne4 3).trans y3
       replace q4 := (hB7.cell hs7' hne 4).trans q4
       replace f4 := (hB7.fz hs7' hne 4).trans f4
       replace x4 := (hB7.cell hs7 hne4 4).trans x4
       replace y4 := (hB7.fz hs7 hne4 4).trans y4
       have hA7 := hA6s.trans hB7 (fun _ _ h => h)
       have hs7a : n4 < w7.heap.size := Nat.lt_of_lt_of_le hs7 hB7.size
       have hs7b : w.heap.size < w7.heap.size := by omega
       clear hB7 hR6s hA6s hs7 hs7'
       go_wp2
       refine bodyPost_ret (v := .agg #[.int .i64 (2), .int .i64 (1 + (k1 : Int)), .int .i64 ((k2 : Int)), .int .i64 ((k6 : Int)), .bool (decide ((0 : Int) < k7))]) (by simp [results, Try.results87, go_sem, q0, q1, q2, q3, q4]) rfl ⟨⟨2, 1 + (k1 : Int), (k2 : Int), (k6 : Int), decide ((0 : Int) < k7)⟩, rfl, ⟨⟨by dsimp only; omega, by dsimp only; omega⟩, ⟨by dsimp only; omega, by dsimp only; omega⟩, ⟨by dsimp only; omega, by dsimp only; omega⟩, ⟨by dsimp only; omega, by dsimp only; omega⟩⟩, ?_, ?_⟩
       · refine (Rd.high (L := w.heap.size) hR7 ?_ hRl).mono (by omega)
         repeat (with_reducible refine Agr.setCell ?_ (.inr (by first | exact Nat.le_refl _ | (show w.heap.size ≤ n4; omega))) _)
         with_reducible exact Agr.refl _ _
       · repeat (with_reducible refine Agr.setCell ?_ (.inl (by first | exact Nat.le_refl _ | (show w.heap.size ≤ n4; omega))) _)
         with_reducible exact hA7
     · have t5 : ((k5 : Int) == 0) = false := by rw [beq_eq_false_iff_ne]; omega
       clear h5
       go_wp2
       refine bodyPost_ret (v := .agg #[.int .i64 (2), .int .i64 (1 + (k1 : Int)), .int .i64 ((k2 : Int)), .int .i64 (9), .bool (false)]) (by simp [results, Try.results87, go_sem, q0, q1, q2, q3, q4]) rfl ⟨⟨2, 1 + (k1 : Int), (k2 : Int), 9, false⟩, rfl, ⟨⟨by dsimp only; omega, by dsimp only; omega⟩, ⟨by dsimp only; omega, by dsimp only; omega⟩, ⟨by dsimp only; omega, by dsimp only; omega⟩, ⟨by dsimp only; omega, by dsimp only; omega⟩⟩, ?_, ?_⟩
       · refine (Rd.high (L := w.heap.size) hR5 ?_ hRl).mono (by omega)
         repeat (with_reducible refine Agr.setCell ?_ (.inr (by first | exact Nat.le_refl _ | (show w.heap.size ≤ n4; omega))) _)
         with_reducible exact Agr.refl _ _
       · repeat (with_reducible refine Agr.setCell ?_ (.inl (by first | exact Nat.le_refl _ | (show w.heap.size ≤ n4; omega))) _)
         with_reducible exact hA5

 · have u0 : ((k3 : Int) == 0) = false := by rw [beq_eq_false_iff_ne]; omega
   have u1 : ((k3 : Int) == 1) = false := by rw [beq_eq_false_iff_ne]; omega
   have u2 : ((k3 : Int) == 2) = false := by rw [beq_eq_false_iff_ne]; omega
   by_cases h3 : k3 = 3
   · have u3 : ((k3 : Int) == 3) = true := by rw [beq_iff_eq]; omega
     clear h0 h3
     go_wp2_with fail
     have hW := wrote_one x0 (.int .i64 3)
     have hRs : Rd (w3.setCell ⟨n4, 0, none⟩ (.int .i64 3)) B R (m + 3) := hR3.agr hW.agr (by omega) (fun b hb e => by have := hR3.le; omega)
     have hAs : Agr (· = R) w (w3.setCell ⟨n4, 0, none⟩ (.int .i64 3)) := hA3.setCell (.inl (by show w.heap.size ≤ n4; omega)) _
     have x0n : (w3.setCell ⟨n4, 0, none⟩ (.int .i64 3)).cell? ⟨n4, 0, none⟩ = some (.int .i64 3) := hW.new_ 0 _ rfl
     replace q0 := (hW.agr.cell (b := w.heap.size) (by omega) (by omega) 0).trans q0
     replace f0 := (hW.frozen ⟨w.heap.size, 0, none⟩).trans f0
     replace y0 := (hW.frozen ⟨n4, 0, none⟩).trans y0
     replace q1 := (hW.agr.cell (b := w.heap.size) (by omega) (by omega) 1).trans q1
     replace f1 := (hW.frozen ⟨w.heap.size, 1, none⟩).trans f1
     replace x1 := (hW.old_ 1 (by simp)).trans x1
     replace y1 := (hW.frozen ⟨n4, 1, none⟩).trans y1
     replace q2 := (hW.agr.cell (b := w.heap.size) (by omega) (by omega) 2).trans q2
     replace f2 := (hW.frozen ⟨w.heap.size, 2, none⟩).trans f2
     replace x2 := (hW.old_ 2 (by simp)).trans x2
     replace y2 := (hW.frozen ⟨n4, 2, none⟩).trans y2
     replace q3 := (hW.agr.cell (b := w.heap.size) (by omega) (by omega) 3).trans q3
     replace f3 := (hW.frozen ⟨w.heap.size, 3, none⟩).trans f3
     replace x3 := (hW.old_ 3 (by simp)).trans x3
     replace y3 := (hW.frozen ⟨n4, 3, none⟩).trans y3
     replace q4 := (hW.agr.cell (b := w.heap.size) (by omega) (by omega) 4).trans q4
     replace f4 := (hW.frozen ⟨w.heap.size, 4, none⟩).trans f4
     replace x4 := (hW.old_ 4 (by simp)).trans x4
     replace y4 := (hW.frozen ⟨n4, 4, none⟩).trans y4
     replace x0 := x0n
     have hsa : n4 < (w3.setCell ⟨n4, 0, none⟩ (.int .i64 3)).heap.size := by simpa using hs3
     have hsb : w.heap.size < (w3.setCell ⟨n4, 0, none⟩ (.int .i64 3)).heap.size := by simpa using hs3'
     clear hW x0n hR3 hA3
     refine (spec_pickI 4 4 B R (m + 3) _ rfl (by omega) (by omega) (by omega) hRs).mono ?_
     rintro e w5 ⟨k5, rfl, hk5, hR5, hB5⟩
     replace q0 := (hB5.cell hsb hne 0).trans q0
     replace f0 := (hB5.fz hsb hne 0).trans f0
     replace x0 := (hB5.cell hsa hne4 0).trans x0
     replace y0 := (hB5.fz hsa hne4 0).trans y0
     replace q1 := (hB5.cell hsb hne 1).trans q1
     replace f1 := (hB5.fz hsb hne 1).trans f1
     replace x1 := (hB5.cell hsa hne4 1).trans x1
     replace y1 := (hB5.fz hsa hne4 1).trans y1
     replace q2 := (hB5.cell hsb hne 2).trans q2
     replace f2 := (hB5.fz hsb hne 2).trans f2
     replace x2 := (hB5.cell hsa hne4 2).trans x2
     replace y2 := (hB5.fz hsa hne4 2).trans y2
     replace q3 := (hB5.cell hsb hne 3).trans q3
     replace f3 := (hB5.fz hsb hne 3).trans f3
     replace x3 := (hB5.cell hsa hne4 3).trans x3
     replace y3 := (hB5.fz hsa hne4 3).trans y3
     replace q4 := (hB5.cell hsb hne 4).trans q4
     replace f4 := (hB5.fz hsb hne 4).trans f4
     replace x4 := (hB5.cell hsa hne4 4).trans x4
     replace y4 := (hB5.fz hsa hne4 4).trans y4
     have hA5 := hAs.trans hB5 (fun _ _ h => h)
     have hs5 : n4 < w5.heap.size := Nat.lt_of_lt_of_le hsa hB5.size
     have hs5' : w.heap.size < w5.heap.size := by omega
     clear hB5 hAs hRs
     by_cases h5 : k5 = 0
     · have t5 : ((k5 : Int) == 0) = true := by subst h5; rfl
       clear h5
       go_wp2_with fail
       refine (spec_pickI 5 5 B R (m + 4) _ rfl (by omega) (by omega) (by omega) hR5).mono ?_
       rintro e w6 ⟨k6, rfl, hk6, hR6, hB6⟩
       replace q0 := (hB6.cell hs5' hne 0).trans q0
       replace f0 := (hB6.fz hs5' hne 0).trans f0
       replace x0 := (hB6.cell hs5 hne4 0).trans x0
       replace y0 := (hB6.fz hs5 hne4 0).trans y0
       replace q1 := (hB6.cell hs5' hne 1).trans q1
       replace f1 := (hB6.fz hs5' hne 1).trans f1
       replace x1 := (hB6.cell hs5 hne4 1).trans x1
       replace y1 := (hB6.fz hs5 hne4 1).trans y1
       replace q2 := (hB6.cell hs5' hne 2).trans q2
       replace f2 := (hB6.fz hs5' hne 2).trans f2
       replace x2 := (hB6.cell hs5 hne4 2).trans x2
       replace y2 := (hB6.fz hs5 hne4 2).trans y2
       replace q3 := (hB6.cell hs5' hne 3).trans q3
       replace f3 := (hB6.fz hs5' hne 3).trans f3
       replace x3 := (hB6.cell hs5 hne4 3).trans x3
       replace y3 := (hB6.fz hs5 hne4 3).trans y3
       replace q4 := (hB6.cell hs5' hne 4).trans q4
       replace f4 := (hB6.fz hs5' hne 4).trans f4
       replace x4 := (hB6.cell hs5 hne4 4).trans x4
       replace y4 := (hB6.fz hs5 hne4 4).trans y4
       have hA6 := hA5.trans hB6 (fun _ _ h => h)
       have hs6a : n4 < w6.heap.size := Nat.lt_of_lt_of_le hs5 hB6.size
       have hs6b : w.heap.size < w6.heap.size := by omega
       go_wp2_with fail
       have hW := wrote_one x3 (.int .i64 k6)
       have hR6s : Rd (w6.setCell ⟨n4, 3, none⟩ (.int .i64 k6)) B R (m + 5) := hR6.agr hW.agr (by omega) (fun b hb e => by have := hR6.le; omega)
       have hA6s : Agr (· = R) w (w6.setCell ⟨n4, 3, none⟩ (.int .i64 k6)) := hA6.setCell (.inl (by show w.heap.size ≤ n4; omega)) _
       have x3n : (w6.setCell ⟨n4, 3, none⟩ (.int .i64 k6)).cell? ⟨n4, 3, none⟩ = some (.int .i64 k6) := hW.new_ 0 _ rfl
       replace q0 := (hW.agr.cell (b := w.heap.size) (by omega) (by omega) 0).trans q0
       replace f0 := (hW.frozen ⟨w.heap.size, 0, none⟩).trans f0
       replace x0 := (hW.old_ 0 (by simp)).trans x0
       replace y0 := (hW.frozen ⟨n4, 0, none⟩).trans y0
       replace q1 := (hW.agr.cell (b := w.heap.size) (by omega) (by omega) 1).trans q1
       replace f1 := (hW.frozen ⟨w.heap.size, 1, none⟩).trans f1
       replace x1 := (hW.old_ 1 (by simp)).trans x1
       replace y1 := (hW.frozen ⟨n4, 1, none⟩).trans y1
       replace q2 := (hW.agr.cell (b := w.heap.size) (by omega) (by omega) 2).trans q2
       replace f2 := (hW.frozen ⟨w.heap.size, 2, none⟩).trans f2
       replace x2 := (hW.old_ 2 (by simp)).trans x2
       replace y2 := (hW.frozen ⟨n4, 2, none⟩).trans y2
       replace q3 := (hW.agr.cell (b := w.heap.size) (by omega) (by omega) 3).trans q3
       replace f3 := (hW.frozen ⟨w.heap.size, 3, none⟩).trans f3
       replace y3 := (hW.frozen ⟨n4, 3, none⟩).trans y3
       replace q4 := (hW.agr.cell (b := w.heap.size) (by omega) (by omega) 4).trans q4
       replace f4 := (hW.frozen ⟨w.heap.size, 4, none⟩).trans f4
       replace x4 := (hW.old_ 4 (by simp)).trans x4
       replace y4 := (hW.frozen ⟨n4, 4, none⟩).trans y4
       replace x3 := x3n
       have hs7 : n4 < (w6.setCell ⟨n4, 3, none⟩ (.int .i64 k6)).heap.size := by simpa using hs6a
       have hs7' : w.heap.size < (w6.setCell ⟨n4, 3, none⟩ (.int .i64 k6)).heap.size := by simpa using hs6b
       clear hW x3n hB6 hR6 hA6 hA5 hR5
       refine (spec_pickI 3 3 B R (m + 5) _ rfl (by omega) (by omega) (by omega) hR6s).mono ?_
       rintro e w7 ⟨k7, rfl, hk7, hR7, hB7⟩
       replace q0 := (hB7.cell hs7' hne 0).trans q0
       replace f0 := (hB7.fz hs7' hne 0).trans f0
       replace x0 := (hB7.cell hs7 hne4 0).trans x0
       replace y0 := (hB7.fz hs7 hne4 0).trans y0
       replace q1 := (hB7.cell hs7' hne 1).trans q1
       replace f1 := (hB7.fz hs7' hne 1).trans f1
       replace x1 := (hB7.cell hs7 hne4 1).trans x1
       replace y1 := (hB7.fz hs7 hne4 1).trans y1
       replace q2 := (hB7.cell hs7' hne 2).trans q2
       replace f2 := (hB7.fz hs7' hne 2).trans f2
       replace x2 := (hB7.cell hs7 hne4 2).trans x2
       replace y2 := (hB7.fz hs7 hne4 2).trans y2
       replace q3 := (hB7.cell hs7' hne 3).trans q3
       replace f3 := (hB7.fz hs7' hne 3).trans f3
       replace x3 := (hB7.cell hs7 hne4 3).trans x3
       replace y3 := (hB7.fz hs7 hne4 3).trans y3
       replace q4 := (hB7.cell hs7' hne 4).trans q4
       replace f4 := (hB7.fz hs7' hne 4).trans f4
       replace x4 := (hB7.cell hs7 hne4 4).trans x4
       replace y4 := (hB7.fz hs7 hne4 4).trans y4
       have hA7 := hA6s.trans hB7 (fun _ _ h => h)
       have hs7a : n4 < w7.heap.size := Nat.lt_of_lt_of_le hs7 hB7.size
       have hs7b : w.heap.size < w7.heap.size := by omega
       clear hB7 hR6s hA6s hs7 hs7'
       go_wp2
       refine bodyPost_ret (v := .agg #[.int .i64 (3), .int .i64 (1 + (k1 : Int)), .int .i64 ((k2 : Int)), .int .i64 ((k6 : Int)), .bool (decide ((0 : Int) < k7))]) (by simp [results, Try.results87, go_sem, q0, q1, q2, q3, q4]) rfl ⟨⟨3, 1 + (k1 : Int), (k2 : Int), (k6 : Int), decide ((0 : Int) < k7)⟩, rfl, ⟨⟨by dsimp only; omega, by dsimp only; omega⟩, ⟨by dsimp only; omega, by dsimp only; omega⟩, ⟨by dsimp only; omega, by dsimp only; omega⟩, ⟨by dsimp only; omega, by dsimp only; omega⟩⟩, ?_, ?_⟩
       · refine (Rd.high (L := w.heap.size) hR7 ?_ hRl).mono (by omega)
         repeat (with_reducible refine Agr.setCell ?_ (.inr (by first | exact Nat.le_refl _ | (show w.heap.size ≤ n4; omega))) _)
         with_reducible exact Agr.refl _ _
       · repeat (with_reducible refine Agr.setCell ?_ (.inl (by first | exact Nat.le_refl _ | (show w.heap.size ≤ n4; omega))) _)
         with_reducible exact hA7
     · have t5 : ((k5 : Int) == 0) = false := by rw [beq_eq_false_iff_ne]; omega
       clear h5
       go_wp2
       refine bodyPost_ret (v := .agg #[.int .i64 (3), .int .i64 (1 + (k1 : Int)), .int .i64 ((k2 : Int)), .int .i64 (9), .bool (false)]) (by simp [results, Try.results87, go_sem, q0, q1, q2, q3, q4]) rfl ⟨⟨3, 1 + (k1 : Int), (k2 : Int), 9, false⟩, rfl, ⟨⟨by dsimp only; omega, by dsimp only; omega⟩, ⟨by dsimp only; omega, by dsimp only; omega⟩, ⟨by dsimp only; omega, by dsimp only; omega⟩, ⟨by dsimp only; omega, by dsimp only; omega⟩⟩, ?_, ?_⟩
       · refine (Rd.high (L := w.heap.size) hR5 ?_ hRl).mono (by omega)
         repeat (with_reducible refine Agr.setCell ?_ (.inr (by first | exact Nat.le_refl _ | (show w.heap.size ≤ n4; omega))) _)
         with_reducible exact Agr.refl _ _
       · repeat (with_reducible refine Agr.setCell ?_ (.inl (by first | exact Nat.le_refl _ | (show w.heap.size ≤ n4; omega))) _)
         with_reducible exact hA5

   · have u3 : ((k3 : Int) == 3) = false := by rw [beq_eq_false_iff_ne]; omega
     by_cases h4 : k3 = 4
     · have u4 : ((k3 : Int) == 4) = true := by rw [beq_iff_eq]; omega
       clear h0 h3 h4
       go_wp2_with fail
       refine (spec_pickI 3 3 B R (m + 3) _ rfl (by omega) (by omega) (by omega) hR3).mono ?_
       rintro e w4 ⟨k4, rfl, hk4, hR4, hB4⟩
       replace q0 := (hB4.cell hs3' hne 0).trans q0
       replace f0 := (hB4.fz hs3' hne 0).trans f0
       replace x0 := (hB4.cell hs3 hne4 0).trans x0
       replace y0 := (hB4.fz hs3 hne4 0).trans y0
       replace q1 := (hB4.cell hs3' hne 1).trans q1
       replace f1 := (hB4.fz hs3' hne 1).trans f1
       replace x1 := (hB4.cell hs3 hne4 1).trans x1
       replace y1 := (hB4.fz hs3 hne4 1).trans y1
       replace q2 := (hB4.cell hs3' hne 2).trans q2
       replace f2 := (hB4.fz hs3' hne 2).trans f2
       replace x2 := (hB4.cell hs3 hne4 2).trans x2
       replace y2 := (hB4.fz hs3 hne4 2).trans y2
       replace q3 := (hB4.cell hs3' hne 3).trans q3
       replace f3 := (hB4.fz hs3' hne 3).trans f3
       replace x3 := (hB4.cell hs3 hne4 3).trans x3
       replace y3 := (hB4.fz hs3 hne4 3).trans y3
       replace q4 := (hB4.cell hs3' hne 4).trans q4
       replace f4 := (hB4.fz hs3' hne 4).trans f4
       replace x4 := (hB4.cell hs3 hne4 4).trans x4
       replace y4 := (hB4.fz hs3 hne4 4).trans y4
       have hA4 := hA3.trans hB4 (fun _ _ h => h)
       have hs4 : n4 < w4.heap.size := Nat.lt_of_lt_of_le hs3 hB4.size
       have hs4' : w.heap.size < w4.heap.size := by omega
       clear hB4 hA3 hR3
       by_cases h4 : k4 = 0
       · have t4 : ((k4 : Int) == 0) = true := by subst h4; rfl
         clear h4
         go_wp2_with fail
         have hW := wrote_one x0 (.int .i64 4)
         have hRs : Rd (w4.setCell ⟨n4, 0, none⟩ (.int .i64 4)) B R (m + 4) := hR4.agr hW.agr (by omega) (fun b hb e => by have := hR4.le; omega)
         have hAs : Agr (· = R) w (w4.setCell ⟨n4, 0, none⟩ (.int .i64 4)) := hA4.setCell (.inl (by show w.heap.size ≤ n4; omega)) _
         have x0n : (w4.setCell ⟨n4, 0, none⟩ (.int .i64 4)).cell? ⟨n4, 0, none⟩ = some (.int .i64 4) := hW.new_ 0 _ rfl
         replace q0 := (hW.agr.cell (b := w.heap.size) (by omega) (by omega) 0).trans q0
         replace f0 := (hW.frozen ⟨w.heap.size, 0, none⟩).trans f0
         replace y0 := (hW.frozen ⟨n4, 0, none⟩).trans y0
         replace q1 := (hW.agr.cell (b := w.heap.size) (by omega) (by omega) 1).trans q1
         replace f1 := (hW.frozen ⟨w.heap.size, 1, none⟩).trans f1
         replace x1 := (hW.old_ 1 (by simp)).trans x1
         replace y1 := (hW.frozen ⟨n4, 1, none⟩).trans y1
         replace q2 := (hW.agr.cell (b := w.heap.size) (by omega) (by omega) 2).trans q2
         replace f2 := (hW.frozen ⟨w.heap.size, 2, none⟩).trans f2
         replace x2 := (hW.old_ 2 (by simp)).trans x2
         replace y2 := (hW.frozen ⟨n4, 2, none⟩).trans y2
         replace q3 := (hW.agr.cell (b := w.heap.size) (by omega) (by omega) 3).trans q3
         replace f3 := (hW.frozen ⟨w.heap.size, 3, none⟩).trans f3
         replace x3 := (hW.old_ 3 (by simp)).trans x3
         replace y3 := (hW.frozen ⟨n4, 3, none⟩).trans y3
         replace q4 := (hW.agr.cell (b := w.heap.size) (by omega) (by omega) 4).trans q4
         replace f4 := (hW.frozen ⟨w.heap.size, 4, none⟩).trans f4
         replace x4 := (hW.old_ 4 (by simp)).trans x4
         replace y4 := (hW.frozen ⟨n4, 4, none⟩).trans y4
         replace x0 := x0n
         have hsa : n4 < (w4.setCell ⟨n4, 0, none⟩ (.int .i64 4)).heap.size := by simpa using hs4
         have hsb : w.heap.size < (w4.setCell ⟨n4, 0, none⟩ (.int .i64 4)).heap.size := by simpa using hs4'
         clear hW x0n hR4 hA4
         refine (spec_pickI 4 4 B R (m + 4) _ rfl (by omega) (by omega) (by omega) hRs).mono ?_
         rintro e w5 ⟨k5, rfl, hk5, hR5, hB5⟩
         replace q0 := (hB5.cell hsb hne 0).trans q0
         replace f0 := (hB5.fz hsb hne 0).trans f0
         replace x0 := (hB5.cell hsa hne4 0).trans x0
         replace y0 := (hB5.fz hsa hne4 0).trans y0
         replace q1 := (hB5.cell hsb hne 1).trans q1
         replace f1 := (hB5.fz hsb hne 1).trans f1
         replace x1 := (hB5.cell hsa hne4 1).trans x1
         replace y1 := (hB5.fz hsa hne4 1).trans y1
         replace q2 := (hB5.cell hsb hne 2).trans q2
         replace f2 := (hB5.fz hsb hne 2).trans f2
         replace x2 := (hB5.cell hsa hne4 2).trans x2
         replace y2 := (hB5.fz hsa hne4 2).trans y2
         replace q3 := (hB5.cell hsb hne 3).trans q3
         replace f3 := (hB5.fz hsb hne 3).trans f3
         replace x3 := (hB5.cell hsa hne4 3).trans x3
         replace y3 := (hB5.fz hsa hne4 3).trans y3
         replace q4 := (hB5.cell hsb hne 4).trans q4
         replace f4 := (hB5.fz hsb hne 4).trans f4
         replace x4 := (hB5.cell hsa hne4 4).trans x4
         replace y4 := (hB5.fz hsa hne4 4).trans y4
         have hA5 := hAs.trans hB5 (fun _ _ h => h)
         have hs5 : n4 < w5.heap.size := Nat.lt_of_lt_of_le hsa hB5.size
         have hs5' : w.heap.size < w5.heap.size := by omega
         clear hB5 hAs hRs
         by_cases h5 : k5 = 0
         · have t5 : ((k5 : Int) == 0) = true := by subst h5; rfl
           clear h5
           go_wp2_with fail
           refine (spec_pickI 5 5 B R (m + 5) _ rfl (by omega) (by omega) (by omega) hR5).mono ?_
           rintro e w6 ⟨k6, rfl, hk6, hR6, hB6⟩
           replace q0 := (hB6.cell hs5' hne 0).trans q0
           replace f0 := (hB6.fz hs5' hne 0).trans f0
           replace x0 := (hB6.cell hs5 hne4 0).trans x0
           replace y0 := (hB6.fz hs5 hne4 0).trans y0
           replace q1 := (hB6.cell hs5' hne 1).trans q1
           replace f1 := (hB6.fz hs5' hne 1).trans f1
           replace x1 := (hB6.cell hs5 hne4 1).trans x1
           replace y1 := (hB6.fz hs5 hne4 1).trans y1
           replace q2 := (hB6.cell hs5' hne 2).trans q2
           replace f2 := (hB6.fz hs5' hne 2).trans f2
           replace x2 := (hB6.cell hs5 hne4 2).trans x2
           replace y2 := (hB6.fz hs5 hne4 2).trans y2
           replace q3 := (hB6.cell hs5' hne 3).trans q3
           replace f3 := (hB6.fz hs5' hne 3).trans f3
           replace x3 := (hB6.cell hs5 hne4 3).trans x3
           replace y3 := (hB6.fz hs5 hne4 3).trans y3
           replace q4 := (hB6.cell hs5' hne 4).trans q4
           replace f4 := (hB6.fz hs5' hne 4).trans f4
           replace x4 := (hB6.cell hs5 hne4 4).trans x4
           replace y4 := (hB6.fz hs5 hne4 4).trans y4
           have hA6 := hA5.trans hB6 (fun _ _ h => h)
           have hs6a : n4 < w6.heap.size := Nat.lt_of_lt_of_le hs5 hB6.size
           have hs6b : w.heap.size < w6.heap.size := by omega
           go_wp2_with fail
           have hW := wrote_one x3 (.int .i64 k6)
           have hR6s : Rd (w6.setCell ⟨n4, 3, none⟩ (.int .i64 k6)) B R (m + 6) := hR6.agr hW.agr (by omega) (fun b hb e => by have := hR6.le; omega)
           have hA6s : Agr (· = R) w (w6.setCell ⟨n4, 3, none⟩ (.int .i64 k6)) := hA6.setCell (.inl (by show w.heap.size ≤ n4; omega)) _
           have x3n : (w6.setCell ⟨n4, 3, none⟩ (.int .i64 k6)).cell? ⟨n4, 3, none⟩ = some (.int .i64 k6) := hW.new_ 0 _ rfl
           replace q0 := (hW.agr.cell (b := w.heap.size) (by omega) (by omega) 0).trans q0
           replace f0 := (hW.frozen ⟨w.heap.size, 0, none⟩).trans f0
           replace x0 := (hW.old_ 0 (by simp)).trans x0
           replace y0 := (hW.frozen ⟨n4, 0, none⟩).trans y0
           replace q1 := (hW.agr.cell (b := w.heap.size) (by omega) (by omega) 1).trans q1
           replace f1 := (hW.frozen ⟨w.heap.size, 1, none⟩).trans f1
           replace x1 := (hW.old_ 1 (by simp)).trans x1
           replace y1 := (hW.frozen ⟨n4, 1, none⟩).trans y1
           replace q2 := (hW.agr.cell (b := w.heap.size) (by omega) (by omega) 2).trans q2
           replace f2 := (hW.frozen ⟨w.heap.size, 2, none⟩).trans f2
           replace x2 := (hW.old_ 2 (by simp)).trans x2
           replace y2 := (hW.frozen ⟨n4, 2, none⟩).trans y2
           replace q3 := (hW.agr.cell (b := w.heap.size) (by omega) (by omega) 3).trans q3
           replace f3 := (hW.frozen ⟨w.heap.size, 3, none⟩).trans f3
           replace y3 := (hW.frozen ⟨n4, 3, none⟩).trans y3
           replace q4 := (hW.agr.cell (b := w.heap.size) (by omega) (by omega) 4).trans q4
           replace f4 := (hW.frozen ⟨w.heap.size, 4, none⟩).trans f4
           replace x4 := (hW.old_ 4 (by simp)).trans x4
           replace y4 := (hW.frozen ⟨n4, 4, none⟩).trans y4
           replace x3 := x3n
           have hs7 : n4 < (w6.setCell ⟨n4, 3, none⟩ (.int .i64 k6)).heap.size := by simpa using hs6a
           have hs7' : w.heap.size < (w6.setCell ⟨n4, 3, none⟩ (.int .i64 k6)).heap.size := by simpa using hs6b
           clear hW x3n hB6 hR6 hA6 hA5 hR5
           refine (spec_pickI 3 3 B R (m + 6) _ rfl (by omega) (by omega) (by omega) hR6s).mono ?_
           rintro e w7 ⟨k7, rfl, hk7, hR7, hB7⟩
           replace q0 := (hB7.cell hs7' hne 0).trans q0
           replace f0 := (hB7.fz hs7' hne 0).trans f0
           replace x0 := (hB7.cell hs7 hne4 0).trans x0
           replace y0 := (hB7.fz hs7 hne4 0).trans y0
           replace q1 := (hB7.cell hs7' hne 1).trans q1
           replace f1 := (hB7.fz hs7' hne 1).trans f1
           replace x1 := (hB7.cell hs7 hne4 1).trans x1
           replace y1 := (hB7.fz hs7 hne4 1).trans y1
           replace q2 := (hB7.cell hs7' hne 2).trans q2
           replace f2 := (hB7.fz hs7' hne 2).trans f2
           replace x2 := (hB7.cell hs7 hne4 2).trans x2
           replace y2 := (hB7.fz hs7 hne4 2).trans y2
           replace q3 := (hB7.cell hs7' hne 3).trans q3
           replace f3 := (hB7.fz hs7' hne 3).trans f3
           replace x3 := (hB7.cell hs7 hne4 3).trans x3
           replace y3 := (hB7.fz hs7 hne4 3).trans y3
           replace q4 := (hB7.cell hs7' hne 4).trans q4
           replace f4 := (hB7.fz hs7' hne 4).trans f4
           replace x4 := (hB7.cell hs7 hne4 4).trans x4
           replace y4 := (hB7.fz hs7 hne4 4).trans y4
           have hA7 := hA6s.trans hB7 (fun _ _ h => h)
           have hs7a : n4 < w7.heap.size := Nat.lt_of_lt_of_le hs7 hB7.size
           have hs7b : w.heap.size < w7.heap.size := by omega
           clear hB7 hR6s hA6s hs7 hs7'
           go_wp2
           refine bodyPost_ret (v := .agg #[.int .i64 (4), .int .i64 (1 + (k1 : Int)), .int .i64 ((k2 : Int)), .int .i64 ((k6 : Int)), .bool (decide ((0 : Int) < k7))]) (by simp [results, Try.results87, go_sem, q0, q1, q2, q3, q4]) rfl ⟨⟨4, 1 + (k1 : Int), (k2 : Int), (k6 : Int), decide ((0 : Int) < k7)⟩, rfl, ⟨⟨by dsimp only; omega, by dsimp only; omega⟩, ⟨by dsimp only; omega, by dsimp only; omega⟩, ⟨by dsimp only; omega, by dsimp only; omega⟩, ⟨by dsimp only; omega, by dsimp only; omega⟩⟩, ?_, ?_⟩
           · refine (Rd.high (L := w.heap.size) hR7 ?_ hRl).mono (by omega)
             repeat (with_reducible refine Agr.setCell ?_ (.inr (by first | exact Nat.le_refl _ | (show w.heap.size ≤ n4; omega))) _)
             with_reducible exact Agr.refl _ _
           · repeat (with_reducible refine Agr.setCell ?_ (.inl (by first | exact Nat.le_refl _ | (show w.heap.size ≤ n4; omega))) _)
             with_reducible exact hA7
         · have t5 : ((k5 : Int) == 0) = false := by rw [beq_eq_false_iff_ne]; omega
           clear h5
           go_wp2
           refine bodyPost_ret (v := .agg #[.int .i64 (4), .int .i64 (1 + (k1 : Int)), .int .i64 ((k2 : Int)), .int .i64 (9), .bool (false)]) (by simp [results, Try.results87, go_sem, q0, q1, q2, q3, q4]) rfl ⟨⟨4, 1 + (k1 : Int), (k2 : Int), 9, false⟩, rfl, ⟨⟨by dsimp only; omega, by dsimp only; omega⟩, ⟨by dsimp only; omega, by dsimp only; omega⟩, ⟨by dsimp only; omega, by dsimp only; omega⟩, ⟨by dsimp only; omega, by dsimp only; omega⟩⟩, ?_, ?_⟩
           · refine (Rd.high (L := w.heap.size) hR5 ?_ hRl).mono (by omega)
             repeat (with_reducible refine Agr.setCell ?_ (.inr (by first | exact Nat.le_refl _ | (show w.heap.size ≤ n4; omega))) _)
             with_reducible exact Agr.refl _ _
           · repeat (with_reducible refine Agr.setCell ?_ (.inl (by first | exact Nat.le_refl _ | (show w.heap.size ≤ n4; omega))) _)
             with_reducible exact hA5

       · have t4 : ((k4 : Int) == 0) = false := by rw [beq_eq_false_iff_ne]; omega
         clear h4
         go_wp2_with fail
         refine (spec_pickI 4 4 B R (m + 4) _ rfl (by omega) (by omega) (by omega) hR4).mono ?_
         rintro e w5 ⟨k5, rfl, hk5, hR5, hB5⟩
         replace q0 := (hB5.cell hs4' hne 0).trans q0
         replace f0 := (hB5.fz hs4' hne 0).trans f0
         replace x0 := (hB5.cell hs4 hne4 0).trans x0
         replace y0 := (hB5.fz hs4 hne4 0).trans y0
         replace q1 := (hB5.cell hs4' hne 1).trans q1
         replace f1 := (hB5.fz hs4' hne 1).trans f1
         replace x1 := (hB5.cell hs4 hne4 1).trans x1
         replace y1 := (hB5.fz hs4 hne4 1).trans y1
         replace q2 := (hB5.cell hs4' hne 2).trans q2
         replace f2 := (hB5.fz hs4' hne 2).trans f2
         replace x2 := (hB5.cell hs4 hne4 2).trans x2
         replace y2 := (hB5.fz hs4 hne4 2).trans y2
         replace q3 := (hB5.cell hs4' hne 3).trans q3
         replace f3 := (hB5.fz hs4' hne 3).trans f3
         replace x3 := (hB5.cell hs4 hne4 3).trans x3
         replace y3 := (hB5.fz hs4 hne4 3).trans y3
         replace q4 := (hB5.cell hs4' hne 4).trans q4
         replace f4 := (hB5.fz hs4' hne 4).trans f4
         replace x4 := (hB5.cell hs4 hne4 4).trans x4
         replace y4 := (hB5.fz hs4 hne4 4).trans y4
         have hA5 := hA4.trans hB5 (fun _ _ h => h)
         have hs5 : n4 < w5.heap.size := Nat.lt_of_lt_of_le hs4 hB5.size
         have hs5' : w.heap.size < w5.heap.size := by omega
         clear hB5 hA4 hR4
         by_cases h5 : k5 = 0
         · have t5 : ((k5 : Int) == 0) = true := by subst h5; rfl
           clear h5
           go_wp2_with fail
           refine (spec_pickI 5 5 B R (m + 5) _ rfl (by omega) (by omega) (by omega) hR5).mono ?_
           rintro e w6 ⟨k6, rfl, hk6, hR6, hB6⟩
           replace q0 := (hB6.cell hs5' hne 0).trans q0
           replace f0 := (hB6.fz hs5' hne 0).trans f0
           replace x0 := (hB6.cell hs5 hne4 0).trans x0
           replace y0 := (hB6.fz hs5 hne4 0).trans y0
           replace q1 := (hB6.cell hs5' hne 1).trans q1
           replace f1 := (hB6.fz hs5' hne 1).trans f1
           replace x1 := (hB6.cell hs5 hne4 1).trans x1
           replace y1 := (hB6.fz hs5 hne4 1).trans y1
           replace q2 := (hB6.cell hs5' hne 2).trans q2
           replace f2 := (hB6.fz hs5' hne 2).trans f2
           replace x2 := (hB6.cell hs5 hne4 2).trans x2
           replace y2 := (hB6.fz hs5 hne4 2).trans y2
           replace q3 := (hB6.cell hs5' hne 3).trans q3
           replace f3 := (hB6.fz hs5' hne 3).trans f3
           replace x3 := (hB6.cell hs5 hne4 3).trans x3
           replace y3 := (hB6.fz hs5 hne4 3).trans y3
           replace q4 := (hB6.cell hs5' hne 4).trans q4
           replace f4 := (hB6.fz hs5' hne 4).trans f4
           replace x4 := (hB6.cell hs5 hne4 4).trans x4
           replace y4 := (hB6.fz hs5 hne4 4).trans y4
           have hA6 := hA5.trans hB6 (fun _ _ h => h)
           have hs6a : n4 < w6.heap.size := Nat.lt_of_lt_of_le hs5 hB6.size
           have hs6b : w.heap.size < w6.heap.size := by omega
           go_wp2_with fail
           have hW := wrote_one x3 (.int .i64 k6)
           have hR6s : Rd (w6.setCell ⟨n4, 3, none⟩ (.int .i64 k6)) B R (m + 6) := hR6.agr hW.agr (by omega) (fun b hb e => by have := hR6.le; omega)
           have hA6s : Agr (· = R) w (w6.setCell ⟨n4, 3, none⟩ (.int .i64 k6)) := hA6.setCell (.inl (by show w.heap.size ≤ n4; omega)) _
           have x3n : (w6.setCell ⟨n4, 3, none⟩ (.int .i64 k6)).cell? ⟨n4, 3, none⟩ = some (.int .i64 k6) := hW.new_ 0 _ rfl
           replace q0 := (hW.agr.cell (b := w.heap.size) (by omega) (by omega) 0).trans q0
           replace f0 := (hW.frozen ⟨w.heap.size, 0, none⟩).trans f0
           replace x0 := (hW.old_ 0 (by simp)).trans x0
           replace y0 := (hW.frozen ⟨n4, 0, none⟩).trans y0
           replace q1 := (hW.agr.cell (b := w.heap.size) (by omega) (by omega) 1).trans q1
           replace f1 := (hW.frozen ⟨w.heap.size, 1, none⟩).trans f1
           replace x1 := (hW.old_ 1 (by simp)).trans x1
           replace y1 := (hW.frozen ⟨n4, 1, none⟩).trans y1
           replace q2 := (hW.agr.cell (b := w.heap.size) (by omega) (by omega) 2).trans q2
           replace f2 := (hW.frozen ⟨w.heap.size, 2, none⟩).trans f2
           replace x2 := (hW.old_ 2 (by simp)).trans x2
           replace y2 := (hW.frozen ⟨n4, 2, none⟩).trans y2
           replace q3 := (hW.agr.cell (b := w.heap.size) (by omega) (by omega) 3).trans q3
           replace f3 := (hW.frozen ⟨w.heap.size, 3, none⟩).trans f3
           replace y3 := (hW.frozen ⟨n4, 3, none⟩).trans y3
           replace q4 := (hW.agr.cell (b := w.heap.size) (by omega) (by omega) 4).trans q4
           replace f4 := (hW.frozen ⟨w.heap.size, 4, none⟩).trans f4
           replace x4 := (hW.old_ 4 (by simp)).trans x4
           replace y4 := (hW.frozen ⟨n4, 4, none⟩).trans y4
           replace x3 := x3n
           have hs7 : n4 < (w6.setCell ⟨n4, 3, none⟩ (.int .i64 k6)).heap.size := by simpa using hs6a
           have hs7' : w.heap.size < (w6.setCell ⟨n4, 3, none⟩ (.int .i64 k6)).heap.size := by simpa using hs6b
           clear hW x3n hB6 hR6 hA6 hA5 hR5
           refine (spec_pickI 3 3 B R (m + 6) _ rfl (by omega) (by omega) (by omega) hR6s).mono ?_
           rintro e w7 ⟨k7, rfl, hk7, hR7, hB7⟩
           replace q0 := (hB7.cell hs7' hne 0).trans q0
           replace f0 := (hB7.fz hs7' hne 0).trans f0
           replace x0 := (hB7.cell hs7 hne4 0).trans x0
           replace y0 := (hB7.fz hs7 hne4 0).trans y0
           replace q1 := (hB7.cell hs7' hne 1).trans q1
           replace f1 := (hB7.fz hs7' hne 1).trans f1
           replace x1 := (hB7.cell hs7 hne4 1).trans x1
           replace y1 := (hB7.fz hs7 hne4 1).trans y1
           replace q2 := (hB7.cell hs7' hne 2).trans q2
           replace f2 := (hB7.fz hs7' hne 2).trans f2
           replace x2 := (hB7.cell hs7 hne4 2).trans x2
           replace y2 := (hB7.fz hs7 hne4 2).trans y2
           replace q3 := (hB7.cell hs7' hne 3).trans q3
           replace f3 := (hB7.fz hs7' hne 3).trans f3
           replace x3 := (hB7.cell hs7 hne4 3).trans x3
           replace y3 := (hB7.fz hs7 hne4 3).trans y3
           replace q4 := (hB7.cell hs7' hne 4).trans q4
           replace f4 := (hB7.fz hs7' hne 4).trans f4
           replace x4 := (hB7.cell hs7 hne4 4).trans x4
           replace y4 := (hB7.fz hs7 hne4 4).trans y4
           have hA7 := hA6s.trans hB7 (fun _ _ h => h)
           have hs7a : n4 < w7.heap.size := Nat.lt_of_lt_of_le hs7 hB7.size
           have hs7b : w.heap.size < w7.heap.size := by omega
           clear hB7 hR6s hA6s hs7 hs7'
           go_wp2
           refine bodyPost_ret (v := .agg #[.int .i64 (1), .int .i64 (1 + (k1 : Int)), .int .i64 ((k2 : Int)), .int .i64 ((k6 : Int)), .bool (decide ((0 : Int) < k7))]) (by simp [results, Try.results87, go_sem, q0, q1, q2, q3, q4]) rfl ⟨⟨1, 1 + (k1 : Int), (k2 : Int), (k6 : Int), decide ((0 : Int) < k7)⟩, rfl, ⟨⟨by dsimp only; omega, by dsimp only; omega⟩, ⟨by dsimp only; omega, by dsimp only; omega⟩, ⟨by dsimp only; omega, by dsimp only; omega⟩, ⟨by dsimp only; omega, by dsimp only; omega⟩⟩, ?_, ?_⟩
           · refine (Rd.high (L := w.heap.size) hR7 ?_ hRl).mono (by omega)
             repeat (with_reducible refine Agr.setCell ?_ (.inr (by first | exact Nat.le_refl _ | (show w.heap.size ≤ n4; omega))) _)
             with_reducible exact Agr.refl _ _
           · repeat (with_reducible refine Agr.setCell ?_ (.inl (by first | exact Nat.le_refl _ | (show w.heap.size ≤ n4; omega))) _)
             with_reducible exact hA7
         · have t5 : ((k5 : Int) == 0) = false := by rw [beq_eq_false_iff_ne]; omega
           clear h5
           go_wp2
           refine bodyPost_ret (v := .agg #[.int .i64 (1), .int .i64 (1 + (k1 : Int)), .int .i64 ((k2 : Int)), .int .i64 (9), .bool (false)]) (by simp [results, Try.results87, go_sem, q0, q1, q2, q3, q4]) rfl ⟨⟨1, 1 + (k1 : Int), (k2 : Int), 9, false⟩, rfl, ⟨⟨by dsimp only; omega, by dsimp only; omega⟩, ⟨by dsimp only; omega, by dsimp only; omega⟩, ⟨by dsimp only; omega, by dsimp only; omega⟩, ⟨by dsimp only; omega, by dsimp only; omega⟩⟩, ?_, ?_⟩
           · refine (Rd.high (L := w.heap.size) hR5 ?_ hRl).mono (by omega)
             repeat (with_reducible refine Agr.setCell ?_ (.inr (by first | exact Nat.le_refl _ | (show w.heap.size ≤ n4; omega))) _)
             with_reducible exact Agr.refl _ _
           · repeat (with_reducible refine Agr.setCell ?_ (.inl (by first | exact Nat.le_refl _ | (show w.heap.size ≤ n4; omega))) _)
             with_reducible exact hA5

     · have u4 : ((k3 : Int) == 4) = false := by rw [beq_eq_false_iff_ne]; omega
       clear h0 h3 h4
       go_wp2_with fail
       refine (spec_pickI 4 4 B R (m + 3) _ rfl (by omega) (by omega) (by omega) hR3).mono ?_
       rintro e w5 ⟨k5, rfl, hk5, hR5, hB5⟩
       replace q0 := (hB5.cell hs3' hne 0).trans q0
       replace f0 := (hB5.fz hs3' hne 0).trans f0
       replace x0 := (hB5.cell hs3 hne4 0).trans x0
       replace y0 := (hB5.fz hs3 hne4 0).trans y0
       replace q1 := (hB5.cell hs3' hne 1).trans q1
       replace f1 := (hB5.fz hs3' hne 1).trans f1
       replace x1 := (hB5.cell hs3 hne4 1).trans x1
       replace y1 := (hB5.fz hs3 hne4 1).trans y1
       replace q2 := (hB5.cell hs3' hne 2).trans q2
       replace f2 := (hB5.fz hs3' hne 2).trans f2
       replace x2 := (hB5.cell hs3 hne4 2).trans x2
       replace y2 := (hB5.fz hs3 hne4 2).trans y2
       replace q3 := (hB5.cell hs3' hne 3).trans q3
       replace f3 := (hB5.fz hs3' hne 3).trans f3
       replace x3 := (hB5.cell hs3 hne4 3).trans x3
       replace y3 := (hB5.fz hs3 hne4 3).trans y3
       replace q4 := (hB5.cell hs3' hne 4).trans q4
       replace f4 := (hB5.fz hs3' hne 4).trans f4
       replace x4 := (hB5.cell hs3 hne4 4).trans x4
       replace y4 := (hB5.fz hs3 hne4 4).trans y4
       have hA5 := hA3.trans hB5 (fun _ _ h => h)
       have hs5 : n4 < w5.heap.size := Nat.lt_of_lt_of_le hs3 hB5.size
       have hs5' : w.heap.size < w5.heap.size := by omega
       clear hB5 hA3 hR3
       by_cases h5 : k5 = 0
       · have t5 : ((k5 : Int) == 0) = true := by subst h5; rfl
         clear h5
         go_wp2_with fail
         refine (spec_pickI 5 5 B R (m + 4) _ rfl (by omega) (by omega) (by omega) hR5).mono ?_
         rintro e w6 ⟨k6, rfl, hk6, hR6, hB6⟩
         replace q0 := (hB6.cell hs5' hne 0).trans q0
         replace f0 := (hB6.fz hs5' hne 0).trans f0
         replace x0 := (hB6.cell hs5 hne4 0).trans x0
         replace y0 := (hB6.fz hs5 hne4 0).trans y0
         replace q1 := (hB6.cell hs5' hne 1).trans q1
         replace f1 := (hB6.fz hs5' hne 1).trans f1
         replace x1 := (hB6.cell hs5 hne4 1).trans x1
         replace y1 := (hB6.fz hs5 hne4 1).trans y1
         replace q2 := (hB6.cell hs5' hne 2).trans q2
         replace f2 := (hB6.fz hs5' hne 2).trans f2
         replace x2 := (hB6.cell hs5 hne4 2).trans x2
         replace y2 := (hB6.fz hs5 hne4 2).trans y2
         replace q3 := (hB6.cell hs5' hne 3).trans q3
         replace f3 := (hB6.fz hs5' hne 3).trans f3
         replace x3 := (hB6.cell hs5 hne4 3).trans x3
         replace y3 := (hB6.fz hs5 hne4 3).trans y3
         replace q4 := (hB6.cell hs5' hne 4).trans q4
         replace f4 := (hB6.fz hs5' hne 4).trans f4
         replace x4 := (hB6.cell hs5 hne4 4).trans x4
         replace y4 := (hB6.fz hs5 hne4 4).trans y4
         have hA6 := hA5.trans hB6 (fun _ _ h => h)
         have hs6a : n4 < w6.heap.size := Nat.lt_of_lt_of_le hs5 hB6.size
         have hs6b : w.heap.size < w6.heap.size := by omega
         go_wp2_with fail
         have hW := wrote_one x3 (.int .i64 k6)
         have hR6s : Rd (w6.setCell ⟨n4, 3, none⟩ (.int .i64 k6)) B R (m + 5) := hR6.agr hW.agr (by omega) (fun b hb e => by have := hR6.le; omega)
         have hA6s : Agr (· = R) w (w6.setCell ⟨n4, 3, none⟩ (.int .i64 k6)) := hA6.setCell (.inl (by show w.heap.size ≤ n4; omega)) _
         have x3n : (w6.setCell ⟨n4, 3, none⟩ (.int .i64 k6)).cell? ⟨n4, 3, none⟩ = some (.int .i64 k6) := hW.new_ 0 _ rfl
         replace q0 := (hW.agr.cell (b := w.heap.size) (by omega) (by omega) 0).trans q0
         replace f0 := (hW.frozen ⟨w.heap.size, 0, none⟩).trans f0
         replace x0 := (hW.old_ 0 (by simp)).trans x0
         replace y0 := (hW.frozen ⟨n4, 0, none⟩).trans y0
         replace q1 := (hW.agr.cell (b := w.heap.size) (by omega) (by omega) 1).trans q1
         replace f1 := (hW.frozen ⟨w.heap.size, 1, none⟩).trans f1
         replace x1 := (hW.old_ 1 (by simp)).trans x1
         replace y1 := (hW.frozen ⟨n4, 1, none⟩).trans y1
         replace q2 := (hW.agr.cell (b := w.heap.size) (by omega) (by omega) 2).trans q2
         replace f2 := (hW.frozen ⟨w.heap.size, 2, none⟩).trans f2
         replace x2 := (hW.old_ 2 (by simp)).trans x2
         replace y2 := (hW.frozen ⟨n4, 2, none⟩).trans y2
         replace q3 := (hW.agr.cell (b := w.heap.size) (by omega) (by omega) 3).trans q3
         replace f3 := (hW.frozen ⟨w.heap.size, 3, none⟩).trans f3
         replace y3 := (hW.frozen ⟨n4, 3, none⟩).trans y3
         replace q4 := (hW.agr.cell (b := w.heap.size) (by omega) (by omega) 4).trans q4
         replace f4 := (hW.frozen ⟨w.heap.size, 4, none⟩).trans f4
         replace x4 := (hW.old_ 4 (by simp)).trans x4
         replace y4 := (hW.frozen ⟨n4, 4, none⟩).trans y4
         replace x3 := x3n
         have hs7 : n4 < (w6.setCell ⟨n4, 3, none⟩ (.int .i64 k6)).heap.size := by simpa using hs6a
         have hs7' : w.heap.size < (w6.setCell ⟨n4, 3, none⟩ (.int .i64 k6)).heap.size := by simpa using hs6b
         clear hW x3n hB6 hR6 hA6 hA5 hR5
         refine (spec_pickI 3 3 B R (m + 5) _ rfl (by omega) (by omega) (by omega) hR6s).mono ?_
         rintro e w7 ⟨k7, rfl, hk7, hR7, hB7⟩
         replace q0 := (hB7.cell hs7' hne 0).trans q0
         replace f0 := (hB7.fz hs7' hne 0).trans f0
         replace x0 := (hB7.cell hs7 hne4 0).trans x0
         replace y0 := (hB7.fz hs7 hne4 0).trans y0
         replace q1 := (hB7.cell hs7' hne 1).trans q1
         replace f1 := (hB7.fz hs7' hne 1).trans f1
         replace x1 := (hB7.cell hs7 hne4 1).trans x1
         replace y1 := (hB7.fz hs7 hne4 1).trans y1
         replace q2 := (hB7.cell hs7' hne 2).trans q2
         replace f2 := (hB7.fz hs7' hne 2).trans f2
         replace x2 := (hB7.cell hs7 hne4 2).trans x2
         replace y2 := (hB7.fz hs7 hne4 2).trans y2
         replace q3 := (hB7.cell hs7' hne 3).trans q3
         replace f3 := (hB7.fz hs7' hne 3).trans f3
         replace x3 := (hB7.cell hs7 hne4 3).trans x3
         replace y3 := (hB7.fz hs7 hne4 3).trans y3
         replace q4 := (hB7.cell hs7' hne 4).trans q4
         replace f4 := (hB7.fz hs7' hne 4).trans f4
         replace x4 := (hB7.cell hs7 hne4 4).trans x4
         replace y4 := (hB7.fz hs7 hne4 4).trans y4
         have hA7 := hA6s.trans hB7 (fun _ _ h => h)
         have hs7a : n4 < w7.heap.size := Nat.lt_of_lt_of_le hs7 hB7.size
         have hs7b : w.heap.size < w7.heap.size := by omega
         clear hB7 hR6s hA6s hs7 hs7'
         go_wp2
         refine bodyPost_ret (v := .agg #[.int .i64 (1), .int .i64 (1 + (k1 : Int)), .int .i64 ((k2 : Int)), .int .i64 ((k6 : Int)), .bool (decide ((0 : Int) < k7))]) (by simp [results, Try.results87, go_sem, q0, q1, q2, q3, q4]) rfl ⟨⟨1, 1 + (k1 : Int), (k2 : Int), (k6 : Int), decide ((0 : Int) < k7)⟩, rfl, ⟨⟨by dsimp only; omega, by dsimp only; omega⟩, ⟨by dsimp only; omega, by dsimp only; omega⟩, ⟨by dsimp only; omega, by dsimp only; omega⟩, ⟨by dsimp only; omega, by dsimp only; omega⟩⟩, ?_, ?_⟩
         · refine (Rd.high (L := w.heap.size) hR7 ?_ hRl).mono (by omega)
           repeat (with_reducible refine Agr.setCell ?_ (.inr (by first | exact Nat.le_refl _ | (show w.heap.size ≤ n4; omega))) _)
           with_reducible exact Agr.refl _ _
         · repeat (with_reducible refine Agr.setCell ?_ (.inl (by first | exact Nat.le_refl _ | (show w.heap.size ≤ n4; omega))) _)
           with_reducible exact hA7
       · have t5 : ((k5 : Int) == 0) = false := by rw [beq_eq_false_iff_ne]; omega
         clear h5
         go_wp2
         refine bodyPost_ret (v := .agg #[.int .i64 (1), .int .i64 (1 + (k1 : Int)), .int .i64 ((k2 : Int)), .int .i64 (9), .bool (false)]) (by simp [results, Try.results87, go_sem, q0, q1, q2, q3, q4]) rfl ⟨⟨1, 1 + (k1 : Int), (k2 : Int), 9, false⟩, rfl, ⟨⟨by dsimp only; omega, by dsimp only; omega⟩, ⟨by dsimp only; omega, by dsimp only; omega⟩, ⟨by dsimp only; omega, by dsimp only; omega⟩, ⟨by dsimp only; omega, by dsimp only; omega⟩⟩, ?_, ?_⟩
         · refine (Rd.high (L := w.heap.size) hR5 ?_ hRl).mono (by omega)
           repeat (with_reducible refine Agr.setCell ?_ (.inr (by first | exact Nat.le_refl _ | (show w.heap.size ≤ n4; omega))) _)
           with_reducible exact Agr.refl _ _
         · repeat (with_reducible refine Agr.setCell ?_ (.inl (by first | exact Nat.le_refl _ | (show w.heap.size ≤ n4; omega))) _)
           with_reducible exact hA5

end Go.Proofs.Ytclnogfmmekooaa
namespace Go.Proofs.Ytclnogfmmekooaa
set_option linter.unusedVariables false
set_option linter.unusedSimpArgs false
open Go.RowKit Go.Maps
set_option maxHeartbeats 400000
theorem Try.info3_event : (Try.prog.info? 134).map (fun i => (i.zero, i.size, i.bytes)) = some (some (.agg #[.int .i64 0, .int .i64 0, .int .i64 0, .int .i64 0, .bool false]), 5, 40) := by kernel_rfl
/-- a row of events of one's own, in a block from base on -/
def OwnE (w : World) (base : Nat) (v : Value) (xs : List Ev) : Prop := w.ownsRow base 134 5 v xs.length (evs xs)
theorem OwnE.below {w w' : World} {base B : Nat} {v : Value} {xs : List Ev} (h : OwnE w base v xs) (hb : Below B w w') (hB : w.heap.size ≤ B) : OwnE w' base v xs := ownsRow_keep h fun b _ hl => hb.block b (by omega)
theorem OwnE.agr {w w' : World} {base : Nat} {v : Value} {xs : List Ev} {S : Nat → Prop} (h : OwnE w base v xs) (hb : Agr S w w') (hS : ∀ b, base ≤ b → ¬ S b) : OwnE w' base v xs := by
 refine ownsRow_keep h fun b hbl hl => hb.block b hl (hS b ?_)
 exact (World.ownsRow.lt h b hbl).1
theorem OwnE.mono {w : World} {base base' : Nat} {v : Value} {xs : List Ev} (h : OwnE w base v xs) (hb : base' ≤ base) : OwnE w base' v xs := World.ownsRow.mono h hb
theorem OwnE.nil (w : World) (base : Nat) (hb : base ≤ w.heap.size) : OwnE (w.alloc (.cells #[] 134)) base (.slice (some ⟨w.heap.size, 0, none⟩) 0 0) [] := World.ownsRow_lit w #[] 0 hb (by unfold maxLen; omega) rfl
theorem OwnE.snoc {w : World} {base g n c : Nat} {xs : List Ev} {x : Ev} (hn : n = xs.length + 1) (h : w.ownsRow base 134 5 (.slice (some ⟨g, 0, none⟩) (xs.length + 1) c) (xs.length + 1) (evs xs ++ x.vs)) : OwnE w base (.slice (some ⟨g, 0, none⟩) n c) (xs ++ [x]) := by
 subst hn
 unfold OwnE
 rw [List.length_append, evs, List.flatMap_append, show [x].flatMap Ev.vs = x.vs by simp]
 exact h
theorem OwnE.alloc {w : World} {base : Nat} {v : Value} {xs : List Ev} (h : OwnE w base v xs) (o : Obj) : OwnE (w.alloc o) base v xs := h.below (B := w.heap.size) ((Below.refl _ _).alloc (Nat.le_refl _) _) (Nat.le_refl _)
theorem new_fine : stFine ⟨flashNew, disk0⟩ := by
 refine ⟨⟨rfl, fun b hb => ?_⟩, rfl, ?_⟩
 · have := List.eq_of_mem_replicate hb
   subst this
   refine ⟨rfl, by decide, by decide, ?_⟩
   decide
 · decide
/-- what l71Play answers -/
def PlayPost (B R m : Nat) (w : World) (e : Ending) (w' : World) : Prop :=
 ∃ (v : Value) (A D : Option Addr) (c lo hi : Nat) (s : St) (xs : List Ev), e = .returned (.tuple #[v, .agg #[.slice A 4 c, .slice D 6 6]]) ∧ w.heap.size ≤ lo ∧ hi ≤ w'.heap.size ∧ 4 ≤ c ∧
   OSt w' lo hi A s.flash D s.disk ∧ stFine s ∧ OwnE w' hi v xs ∧ xs.length ≤ 58 ∧ (∀ x ∈ xs, evFine x) ∧ Rd w' B R (m + 500) ∧ Agr (· = R) w w'
set_option maxHeartbeats 4000000 in
set_option maxRecDepth 100000 in
theorem spec_l71Play (B R m : Nat) (w : World) (hm : m ≤ 800000) (hR : Rd w B R m) :
 Calls Try.prog 56 #[.pointer (some ⟨R, 0, none⟩)] w (PlayPost B R m w) := by
 obtain ⟨ib, hib, hbz0, hbz1, hbz2⟩ := info_parts Try.info3_event
 have hRl := hR.lt
 have hq := Row.new w #[.slice none 0 0, .slice none 0 0] 94
 obtain ⟨q0, f0⟩ := hq.at0 (j := 0) rfl
 obtain ⟨q1, f1⟩ := hq.at0 (j := 1) rfl
 have hR0 := hR.alloc (.cells #[.slice none 0 0, .slice none 0 0] 94)
 have hs0 : w.heap.size < (w.alloc (.cells #[.slice none 0 0, .slice none 0 0] 94)).heap.size := by simp
 have hB0 : Below w.heap.size w (w.alloc (.cells #[.slice none 0 0, .slice none 0 0] 94)) := by (repeat (first | (with_reducible exact Below.refl _ _) | (with_reducible assumption) | (refine Below.setCell ?_ (by first | omega | exact hB.size | exact hb.size | (have h := hB.size; simp; omega) | (have h := hb.size; simp; omega) | (simp; omega) | simp) _) | (refine Below.alloc ?_ (by first | omega | exact hB.size | exact hb.size | (have h := hB.size; simp; omega) | (have h := hb.size; simp; omega) | (simp; omega) | simp) _) | (refine Below.drew ?_)))
 have hne : ¬ w.heap.size = R := by omega
 clear hq
 go_enter Try.func56, Try.ntmps56
 go_wp2_with fail
 refine (spec_StoreNew _).mono ?_
 rintro e w1 ⟨A, c, D, rfl, hc, hO, hb⟩
 replace q0 := (hb.cell (p := ⟨w.heap.size, 0, none⟩) hs0).trans q0
 replace q1 := (hb.cell (p := ⟨w.heap.size, 1, none⟩) hs0).trans q1
 replace f0 := (hb.frozen (p := ⟨w.heap.size, 0, none⟩) hs0).trans f0
 replace f1 := (hb.frozen (p := ⟨w.heap.size, 1, none⟩) hs0).trans f1
 have hR1 := hR0.below hb (Nat.le_refl _)
 have hs1 : w.heap.size < w1.heap.size := Nat.lt_of_lt_of_le hs0 hb.size
 have hB1 : Below w.heap.size w w1 := hB0.trans (hb.mono (by simp))
 replace hO : OSt w1 (w.heap.size + 1) w1.heap.size A flashNew D disk0 := hO.mono (by simp) (Nat.le_refl _)
 clear hb hB0 hs0 hR0
 obtain ⟨W2, hW2⟩ : ∃ W, W = (w1.alloc (.cells #[.slice A 4 c, .slice D 6 6] 94)).alloc (.cells #[] 134) := ⟨_, rfl⟩
 have hBW : Below w1.heap.size w1 W2 := by rw [hW2]; (repeat (first | (with_reducible exact Below.refl _ _) | (with_reducible assumption) | (refine Below.setCell ?_ (by first | omega | exact hB.size | exact hb.size | (have h := hB.size; simp; omega) | (have h := hb.size; simp; omega) | (simp; omega) | simp) _) | (refine Below.alloc ?_ (by first | omega | exact hB.size | exact hb.size | (have h := hB.size; simp; omega) | (have h := hb.size; simp; omega) | (simp; omega) | simp) _) | (refine Below.drew ?_)))
 have hM := (Row.new w1 #[.slice A 4 c, .slice D 6 6] 94).alloc (.cells #[] 134)
 rw [← hW2] at hM
 obtain ⟨b0, b2⟩ := hM.at0 (j := 0) rfl
 obtain ⟨b1, b3⟩ := hM.at0 (j := 1) rfl
 have hE : OwnE W2 (w1.heap.size + 1) (.slice (some ⟨w1.heap.size + 1, 0, none⟩) 0 0) [] := by
  have := OwnE.nil (w1.alloc (.cells #[.slice A 4 c, .slice D 6 6] 94)) (w1.heap.size + 1) (by simp)
  simp only [World.size_alloc] at this
  rw [hW2]; exact this
 replace q0 := (hBW.cell (p := ⟨w.heap.size, 0, none⟩) hs1).trans q0
 replace q1 := (hBW.cell (p := ⟨w.heap.size, 1, none⟩) hs1).trans q1
 replace f0 := (hBW.frozen (p := ⟨w.heap.size, 0, none⟩) hs1).trans f0
 replace f1 := (hBW.frozen (p := ⟨w.heap.size, 1, none⟩) hs1).trans f1
 have hR2 := hR1.below hBW (Nat.le_refl _)
 have hO2 := hO.below hBW (Nat.le_refl _)
 have hs2 : w1.heap.size < W2.heap.size := by rw [hW2]; simp; omega
 have hA2 : Agr (· = R) w W2 := Agr.of_below (hB1.trans (hBW.mono (by omega)))
 have HW2 := Lib.hid hW2
 clear hBW hM hW2 hR1 hO hB1
 go_wp2_with fail
 rw [← HW2.out]
 refine (spec_pickI 58 58 B R m _ rfl (by omega) (by omega) (by omega) hR2).mono ?_
 rintro e w3 ⟨k, rfl, hk, hR3, hA3⟩
 generalize w1.heap.size = n1 at *
 have hRn : R < n1 := by omega
 replace q0 := (hA3.cell (b := w.heap.size) (by omega) (by omega) 0).trans q0
 replace q1 := (hA3.cell (b := w.heap.size) (by omega) (by omega) 1).trans q1
 replace f0 := (hA3.fz (b := w.heap.size) (by omega) (by omega) 0).trans f0
 replace f1 := (hA3.fz (b := w.heap.size) (by omega) (by omega) 1).trans f1
 replace b0 := (hA3.cell (b := n1) (by omega) (by omega) 0).trans b0
 replace b1 := (hA3.cell (b := n1) (by omega) (by omega) 1).trans b1
 replace b2 := (hA3.fz (b := n1) (by omega) (by omega) 0).trans b2
 replace b3 := (hA3.fz (b := n1) (by omega) (by omega) 1).trans b3
 have hO3 : OSt w3 (w.heap.size + 1) n1 A flashNew D disk0 := hO2.keep fun b h1 h2 hl => hA3.block b hl (by omega)
 have hE3 : OwnE w3 (n1 + 1) (.slice (some ⟨n1 + 1, 0, none⟩) 0 0) [] := hE.agr hA3 (by intro b h1 h2; omega)
 have hs3 : n1 < w3.heap.size := Nat.lt_of_lt_of_le hs2 hA3.size
 have hA3' := hA2.trans hA3 (fun _ _ h => h)
 clear hA3 hA2 hs2 hO2 hE hR2
 go_wp2
 go_loopw [5, 6] (fun t5 t6 wr => ∃ (j p : Nat) (xs : List Ev) (s : St), t6 = .int .i64 j ∧ j ≤ 57 ∧ xs.length + j ≤ 58 ∧ p + 7 * j ≤ m + 400 ∧ OwnE wr (n1 + 1) t5 xs ∧ Hid (∀ x ∈ xs, evFine x) ∧ Hid (stFine s) ∧
  OSt wr (w.heap.size + 1) n1 A s.flash D s.disk ∧ Rd wr B R p ∧ Agr (· = R) w wr ∧ n1 < wr.heap.size ∧
  (wr.cell? ⟨n1, 0, none⟩ = some (.slice A 4 c) ∧ wr.cell? ⟨n1, 1, none⟩ = some (.slice D 6 6) ∧ wr.frozen? ⟨n1, 0, none⟩ = false ∧ wr.frozen? ⟨n1, 1, none⟩ = false) ∧
  (wr.cell? ⟨w.heap.size, 0, none⟩ = some (.slice none 0 0) ∧ wr.cell? ⟨w.heap.size, 1, none⟩ = some (.slice none 0 0) ∧ wr.frozen? ⟨w.heap.size, 0, none⟩ = false ∧ wr.frozen? ⟨w.heap.size, 1, none⟩ = false)) (fun _ t6 _ => (intOf t6).toNat)
 case atStart => exact ⟨k, m + 1, [], ⟨flashNew, disk0⟩, rfl, by omega, by simp; omega, by omega, hE3, Lib.hid (by simp), Lib.hid new_fine, hO3, hR3, hA3', hs3, ⟨b0, b1, b2, b3⟩, ⟨q0, q1, f0, f1⟩⟩
 case round =>
  clear b0 b1 b2 b3 q0 q1 f0 f1
  obtain ⟨j, p, xs, s, rfl, hj, hxl, hp, hEk, hXs, hst, hOk, hRk, hAk, hsk, ⟨b0, b1, b2, b3⟩, ⟨q0, q1, f0, f1⟩⟩ := hrel
  by_cases hj0 : 0 < j
  · have hj1 : (0 : Int) < j := by omega
    go_wp2_with fail
    refine (spec_l71Event B R p _ (by omega) hRk).mono ?_
    rintro e w4 ⟨x, rfl, hx, hR4, hA4⟩
    have hs4 : n1 < w4.heap.size := Nat.lt_of_lt_of_le hsk hA4.size
    have hO4 : OSt w4 (w.heap.size + 1) n1 A s.flash D s.disk := hOk.keep fun b h1 h2 hl => hA4.block b hl (by omega)
    have hE4 : OwnE w4 (n1 + 1) u5 xs := hEk.agr hA4 (by intro b h1 h2; omega)
    have hA4' := hAk.trans hA4 (fun _ _ h => h)
    replace q0 := (hA4.cell (b := w.heap.size) (by omega) (by omega) 0).trans q0
    replace q1 := (hA4.cell (b := w.heap.size) (by omega) (by omega) 1).trans q1
    replace f0 := (hA4.fz (b := w.heap.size) (by omega) (by omega) 0).trans f0
    replace f1 := (hA4.fz (b := w.heap.size) (by omega) (by omega) 1).trans f1
    replace b0 := (hA4.cell (b := n1) (by omega) (by omega) 0).trans b0
    replace b1 := (hA4.cell (b := n1) (by omega) (by omega) 1).trans b1
    replace b2 := (hA4.fz (b := n1) (by omega) (by omega) 0).trans b2
    replace b3 := (hA4.fz (b := n1) (by omega) (by omega) 1).trans b3
    have hQ : ∀ q, u5.ownBlock = some q → n1 + 1 ≤ q ∧ q < w4.heap.size := fun q e => World.ownsRow.lt hE4 q e
    have hE6 : OwnE ((w4.alloc (.cells #[.int .i64 x.kind, .int .i64 x.a, .int .i64 x.b, .int .i64 x.c, .bool x.torn] 134)).alloc (.cells #[.int .i64 x.kind, .int .i64 x.a, .int .i64 x.b, .int .i64 x.c, .bool x.torn] 134)) (n1 + 1) u5 xs := (hE4.alloc _).alloc _
    have hx4 := (Row.new w4 #[.int .i64 x.kind, .int .i64 x.a, .int .i64 x.b, .int .i64 x.c, .bool x.torn] 134).alloc (.cells #[.int .i64 x.kind, .int .i64 x.a, .int .i64 x.b, .int .i64 x.c, .bool x.torn] 134)
    obtain ⟨x0, y0⟩ := hx4.at0 (j := 0) rfl
    obtain ⟨x1, y1⟩ := hx4.at0 (j := 1) rfl
    obtain ⟨x2, y2⟩ := hx4.at0 (j := 2) rfl
    obtain ⟨x3, y3⟩ := hx4.at0 (j := 3) rfl
    obtain ⟨x4, y4⟩ := hx4.at0 (j := 4) rfl
    have hAa : Agr (fun b => n1 + 1 ≤ b) w4 ((w4.alloc (.cells #[.int .i64 x.kind, .int .i64 x.a, .int .i64 x.b, .int .i64 x.c, .bool x.torn] 134)).alloc (.cells #[.int .i64 x.kind, .int .i64 x.a, .int .i64 x.b, .int .i64 x.c, .bool x.torn] 134)) := ((Agr.refl _ _).alloc _).alloc _
    have hs6 : ((w4.alloc (.cells #[.int .i64 x.kind, .int .i64 x.a, .int .i64 x.b, .int .i64 x.c, .bool x.torn] 134)).alloc (.cells #[.int .i64 x.kind, .int .i64 x.a, .int .i64 x.b, .int .i64 x.c, .bool x.torn] 134)).heap.size = w4.heap.size + 1 + 1 := by simp
    have hrow := Row.new (w4.alloc (.cells #[.int .i64 x.kind, .int .i64 x.a, .int .i64 x.b, .int .i64 x.c, .bool x.torn] 134)) #[.int .i64 x.kind, .int .i64 x.a, .int .i64 x.b, .int .i64 x.c, .bool x.torn] 134
    simp only [World.size_alloc] at hrow
    have hnews : ∀ j u, x.vs[j]? = some u → ((w4.alloc (.cells #[.int .i64 x.kind, .int .i64 x.a, .int .i64 x.b, .int .i64 x.c, .bool x.torn] 134)).alloc (.cells #[.int .i64 x.kind, .int .i64 x.a, .int .i64 x.b, .int .i64 x.c, .bool x.torn] 134)).cell? ((⟨w4.heap.size + 1, 0, none⟩ : Addr).add j) = some u := hrow.news
    clear hE4 hA4 hEk hOk hRk hAk hx4 hrow
    have hBa : Below w4.heap.size w4 ((w4.alloc (.cells #[.int .i64 x.kind, .int .i64 x.a, .int .i64 x.b, .int .i64 x.c, .bool x.torn] 134)).alloc (.cells #[.int .i64 x.kind, .int .i64 x.a, .int .i64 x.b, .int .i64 x.c, .bool x.torn] 134)) := by (repeat (first | (with_reducible exact Below.refl _ _) | (with_reducible assumption) | (refine Below.setCell ?_ (by first | omega | exact hB.size | exact hb.size | (have h := hB.size; simp; omega) | (have h := hb.size; simp; omega) | (simp; omega) | simp) _) | (refine Below.alloc ?_ (by first | omega | exact hB.size | exact hb.size | (have h := hB.size; simp; omega) | (have h := hb.size; simp; omega) | (simp; omega) | simp) _) | (refine Below.drew ?_)))
    have Qq0 := (hBa.cell (p := ⟨w.heap.size, 0, none⟩) (by show w.heap.size < w4.heap.size; omega)).trans q0
    have Qq1 := (hBa.cell (p := ⟨w.heap.size, 1, none⟩) (by show w.heap.size < w4.heap.size; omega)).trans q1
    have Qf0 := (hBa.frozen (p := ⟨w.heap.size, 0, none⟩) (by show w.heap.size < w4.heap.size; omega)).trans f0
    have Qf1 := (hBa.frozen (p := ⟨w.heap.size, 1, none⟩) (by show w.heap.size < w4.heap.size; omega)).trans f1
    have Qb0 := (hBa.cell (p := ⟨n1, 0, none⟩) (by show n1 < w4.heap.size; omega)).trans b0
    have Qb1 := (hBa.cell (p := ⟨n1, 1, none⟩) (by show n1 < w4.heap.size; omega)).trans b1
    have Qb2 := (hBa.frozen (p := ⟨n1, 0, none⟩) (by show n1 < w4.heap.size; omega)).trans b2
    have Qb3 := (hBa.frozen (p := ⟨n1, 1, none⟩) (by show n1 < w4.heap.size; omega)).trans b3
    go_wp2_with (at_builtin; refine wpList_append_lies _ rfl (.tmp 18) (.tmp 20) _ rfl (n1 + 1) 134 ib _ 5 40 Try.underlying91 hib hbz0 hbz1 hbz2 rfl (by omega) u5 xs.length (evs xs) rfl hE6 ⟨w4.heap.size + 1, 0, none⟩ 1 1 x.vs rfl rfl hnews (by simp [Value.oneCell', Ev.vs]) (by omega) (by unfold maxLen; omega) (by omega) (by simp; omega) (w4.heap.size + 1 + 1) (by simp) ?_; intro g2 c2 w7 hown2 hgrow2 hat2 hlt2; have hAg := (Agr.refl (fun b => u5.ownBlock = some b) _).grown hgrow2 (fun g hg => .inr hg); have zq0 := (hAg.cell (b := w.heap.size) (by omega) (fun e => by have := hQ _ e; omega) 0).trans Qq0; have zq1 := (hAg.cell (b := w.heap.size) (by omega) (fun e => by have := hQ _ e; omega) 1).trans Qq1; have zf0 := (hAg.fz (b := w.heap.size) (by omega) (fun e => by have := hQ _ e; omega) 0).trans Qf0; have zf1 := (hAg.fz (b := w.heap.size) (by omega) (fun e => by have := hQ _ e; omega) 1).trans Qf1; have zb0 := (hAg.cell (b := n1) (by omega) (fun e => by have := hQ _ e; omega) 0).trans Qb0; have zb1 := (hAg.cell (b := n1) (by omega) (fun e => by have := hQ _ e; omega) 1).trans Qb1; have zb2 := (hAg.fz (b := n1) (by omega) (fun e => by have := hQ _ e; omega) 0).trans Qb2; have zb3 := (hAg.fz (b := n1) (by omega) (fun e => by have := hQ _ e; omega) 1).trans Qb3; have zx0 := (hAg.cell (b := w4.heap.size) (by omega) (fun e => by have := hQ _ e; omega) 0).trans x0; have zx1 := (hAg.cell (b := w4.heap.size) (by omega) (fun e => by have := hQ _ e; omega) 1).trans x1; have zx2 := (hAg.cell (b := w4.heap.size) (by omega) (fun e => by have := hQ _ e; omega) 2).trans x2; have zx3 := (hAg.cell (b := w4.heap.size) (by omega) (fun e => by have := hQ _ e; omega) 3).trans x3; have zx4 := (hAg.cell (b := w4.heap.size) (by omega) (fun e => by have := hQ _ e; omega) 4).trans x4; clear b0 b1 b2 b3 q0 q1 f0 f1 x0 x1 x2 x3 x4 y0 y1 y2 y3 y4)
    have hAll : Agr (fun b => n1 + 1 ≤ b) w4 w7 := hAa.trans hAg (fun b _ h => (hQ _ h).1)
    have hO7 : OSt w7 (w.heap.size + 1) n1 A s.flash D s.disk := hO4.keep fun b h1 h2 hl => hAll.block b hl (by omega)
    have hR7 : Rd w7 B R (p + 7) := hR4.agr hAll (by omega) (fun b hb e => by have := hR4.le; omega)
    have hA7 : Agr (· = R) w w7 := hA4'.trans hAll (fun b hb e => by omega)
    have hs7 : n1 < w7.heap.size := Nat.lt_of_lt_of_le hs4 hAll.size
    have hE7 : OwnE w7 (n1 + 1) (.slice (some ⟨g2, 0, none⟩) (xs.length + 1) c2) (xs ++ [x]) := OwnE.snoc rfl hown2
    clear hAa hAg hAll hO4 hR4 hA4' hQ hE6 hnews hBa Qq0 Qq1 Qf0 Qf1 Qb0 Qb1 Qb2 Qb3 hown2 hgrow2 hat2 hs6
    refine (spec_l21Do s x A D c 6 (w.heap.size + 1) n1 _ hst.out (by omega) hO7).mono ?_
    rintro e w8 ⟨rfl, hO8, hA8⟩
    have hst8 := Lib.hid (doEv_fine hst.out x)
    generalize doEv s x = s8 at *
    replace zq0 := (hA8.cell (b := w.heap.size) (by omega) (by omega) 0).trans zq0
    replace zq1 := (hA8.cell (b := w.heap.size) (by omega) (by omega) 1).trans zq1
    replace zf0 := (hA8.fz (b := w.heap.size) (by omega) (by omega) 0).trans zf0
    replace zf1 := (hA8.fz (b := w.heap.size) (by omega) (by omega) 1).trans zf1
    replace zb0 := (hA8.cell (b := n1) (by omega) (by omega) 0).trans zb0
    replace zb1 := (hA8.cell (b := n1) (by omega) (by omega) 1).trans zb1
    replace zb2 := (hA8.fz (b := n1) (by omega) (by omega) 0).trans zb2
    replace zb3 := (hA8.fz (b := n1) (by omega) (by omega) 1).trans zb3
    have hR8 : Rd w8 B R (p + 7) := hR7.agr hA8 (by omega) (fun b hb e => by have := hR7.le; omega)
    have hE8 : OwnE w8 (n1 + 1) (.slice (some ⟨g2, 0, none⟩) (xs.length + 1) c2) (xs ++ [x]) := hE7.agr hA8 (by intro b h1 h2; omega)
    have hAw8 : Agr (· = R) w w8 := hA7.trans hA8 (fun b hb e => by omega)
    have hs8 : n1 < w8.heap.size := Nat.lt_of_lt_of_le hs7 hA8.size
    clear hO7 hR7 hE7 hA7 hA8 hs7 zx0 zx1 zx2 zx3 zx4
    have hW : Wrote w8 ((w8.setCell ⟨n1, 0, none⟩ (.slice A 4 c)).setCell ⟨n1, 1, none⟩ (.slice D 6 6)) n1 0 [.slice A 4 c, .slice D 6 6] := wrote_setRow n1 [.slice A 4 c, .slice D 6 6] 0 w8 (fun j hj => by
     match j, hj with
     | 0, _ => exact ⟨_, zb0⟩
     | 1, _ => exact ⟨_, zb1⟩)
    have hO9 : OSt _ (w.heap.size + 1) n1 A s8.flash D s8.disk := hO8.keep fun b h1 h2 _ => hW.block b (by omega)
    have hR9 : Rd _ B R (p + 7) := hR8.agr hW.agr (by omega) (fun b hb e => by have := hR8.le; omega)
    have hE9 : OwnE _ (n1 + 1) (.slice (some ⟨g2, 0, none⟩) (xs.length + 1) c2) (xs ++ [x]) := hE8.agr hW.agr (by intro b h1 h2; omega)
    have hA9 : Agr (· = R) w _ := hAw8.trans (S' := (· = n1)) hW.agr (fun b hb e => by omega)
    have t0 := hW.new_ 0 _ rfl
    have t1 := hW.new_ 1 _ rfl
    have t2 := (hW.frozen ⟨n1, 0, none⟩).trans zb2
    have t3 := (hW.frozen ⟨n1, 1, none⟩).trans zb3
    have s0 := (hW.agr.cell (b := w.heap.size) (by omega) (by omega) 0).trans zq0
    have s1 := (hW.agr.cell (b := w.heap.size) (by omega) (by omega) 1).trans zq1
    have s2 := (hW.frozen ⟨w.heap.size, 0, none⟩).trans zf0
    have s3 := (hW.frozen ⟨w.heap.size, 1, none⟩).trans zf1
    have hss := hW.size
    have hXs2 := Lib.hid (show ∀ y ∈ xs ++ [x], evFine y from fun y hy => by
     rcases List.mem_append.1 hy with hy | hy
     · exact hXs.out y hy
     · rw [List.mem_singleton] at hy; subst hy; exact hx)
    have hxl2 : (xs ++ [x]).length + (j - 1) ≤ 58 := by rw [List.length_append]; simp only [List.length_cons, List.length_nil]; omega
    have e1 : IntKind.i64.wrap ((j : Int) - 1) = (j : Int) - 1 := IntWalk.i64_in _ (by omega)
    have e2 : ((j - 1 : Nat) : Int) = (j : Int) - 1 := by omega
    clear hW hO8 hR8 hE8 hAw8 hXs
    have E2 := Lib.hid e2
    clear e2
    go_wp2
    go_roundw
    (case rel => exact ⟨j - 1, p + 7, xs ++ [x], s8, by rw [E2.out], by omega, hxl2, by omega, hE9, hXs2, hst8, hO9, hR9, hA9, by omega, ⟨t0, t1, t2, t3⟩, ⟨s0, s1, s2, s3⟩⟩)
    (case measure => simp [intOf]; omega)
  · obtain rfl : j = 0 := by omega
    go_wp2
    have d0 : wr.drew.cell? ⟨n1, 0, none⟩ = some (.slice A 4 c) := b0
    have d1 : wr.drew.cell? ⟨n1, 1, none⟩ = some (.slice D 6 6) := b1
    have d2 : wr.drew.cell? ⟨w.heap.size, 0, none⟩ = some (.slice none 0 0) := q0
    have d3 : wr.drew.cell? ⟨w.heap.size, 1, none⟩ = some (.slice none 0 0) := q1
    go_region
    all_goals
     go_wp2
     have hF : Agr (· = w.heap.size) wr ((wr.setCell ⟨w.heap.size, 0, none⟩ (.slice A 4 c)).setCell ⟨w.heap.size, 1, none⟩ (.slice D 6 6)).drew := Agr.drew (Agr.setCell (S := fun b => b = w.heap.size) (Agr.setCell (S := fun b => b = w.heap.size) (Agr.refl _ _) (p := ⟨w.heap.size, 0, none⟩) (.inr rfl) _) (p := ⟨w.heap.size, 1, none⟩) (.inr rfl) _)
     refine bodyPost_ret (v := .tuple #[u5, .agg #[.slice A 4 c, .slice D 6 6]]) (by simp [results, Try.results56, go_sem, q0, q1]) rfl ⟨u5, A, D, c, w.heap.size + 1, n1, s, xs, rfl, by omega, ?_, hc, ?_, hst.out, ?_, by omega, hXs.out, ?_, ?_⟩
     · have := hF.size; omega
     · exact hOk.keep fun b h1 h2 hl => hF.block b hl (by omega)
     · exact (hEk.agr hF (by intro b h1 h2; omega)).mono (by omega)
     · exact (hRk.agr hF (by omega) (fun b hb e => by have := hRk.le; omega)).mono (by omega)
     · exact hAk.trans hF (fun b hb e => by omega)
end Go.Proofs.Ytclnogfmmekooaa
namespace Go.Proofs.Ytclnogfmmekooaa
set_option linter.unusedVariables false
set_option linter.unusedSimpArgs false
open Go.RowKit Go.Maps
set_option maxHeartbeats 400000
def pgSmall (p : Pg) : Prop := sm p.state ∧ rcSmall p.rc
def bkSmall (b : Bk) : Prop := b.pages.length ≤ 4 ∧ sm b.worn ∧ ∀ p ∈ b.pages, pgSmall p
def flSmall (f : List Bk) : Prop := f.length ≤ 4 ∧ 3 ≤ f.length ∧ ∀ b ∈ f, bkSmall b
theorem sm_of {x : Int} (h1 : -1 ≤ x) (h2 : x ≤ 1000) : sm x := ⟨h1, h2⟩
theorem pgSmall_of {p : Pg} (h : pageOk p = true) : pgSmall p := by
 have h' := h
 unfold pageOk at h
 split at h
 · rename_i h1
   have hr := recOk_addr h
   have hk : p.rc.kind = 1 ∨ p.rc.kind = 2 := by
    unfold recOk kindB at h
    simp at h
    omega
   refine ⟨sm_of (by omega) (by omega), sm_of (by omega) (by omega), sm_of (by omega) (by omega), sm_of (by omega) (by omega), sm_of (by omega) (by omega)⟩
 · split at h
   · rename_i h2
     have : p.rc = rc0 := by simpa using h
     refine ⟨sm_of (by omega) (by omega), ?_⟩
     rw [this]
     exact ⟨⟨by decide, by decide⟩, ⟨by decide, by decide⟩, ⟨by decide, by decide⟩, ⟨by decide, by decide⟩⟩
   · cases h
theorem bkSmall_of {b : Bk} (h : bkFine b) : bkSmall b := ⟨by rw [h.1]; omega, ⟨by have := h.2.1; omega, by have := h.2.2.1; omega⟩, fun p hp => pgSmall_of (h.2.2.2 p hp)⟩
theorem flSmall_of {f : List Bk} (h : flFine f) : flSmall f := ⟨by rw [h.1]; omega, by rw [h.1]; omega, fun b hb => bkSmall_of (h.2 b hb)⟩
theorem flSmall_set {f : List Bk} {b : Bk} (h : flSmall f) (hb : bkSmall b) (i : Nat) : flSmall (f.set i b) :=
 ⟨by rw [List.length_set]; exact h.1, by rw [List.length_set]; exact h.2.1, fun c hc => by rcases mem_set hc with hc | rfl; exact h.2.2 c hc; exact hb⟩
theorem Row.drop {w : World} {b o : Nat} {vs : List Value} (h : Row w (some ⟨b, o, none⟩) vs) (k : Nat) : Row w (some ⟨b, o + k, none⟩) (vs.drop k) := fun hn => by
 obtain ⟨b', o', he, hc⟩ := h (by rintro rfl; simp at hn)
 cases he
 refine ⟨b, o + k, rfl, fun j u hj => ?_⟩
 rw [List.getElem?_drop] at hj
 have := hc (k + j) u hj
 rwa [← Nat.add_assoc] at this
theorem Bks.tail {w : World} {g o : Nat} {b : Bk} {f : List Bk} {x : Option Addr × Nat} {hs : List (Option Addr × Nat)} (h : Bks w (some ⟨g, o, none⟩) (b :: f) (x :: hs)) : Bks w (some ⟨g, o + 2, none⟩) f hs :=
 ⟨by simpa using h.len, by have := h.row.drop 2; simpa [hdrs] using this, fun i c y hc hy => h.pg (i + 1) c y (by simpa using hc) (by simpa using hy)⟩
theorem Apt.tail {lo hi g o o' : Nat} {x : Option Addr × Nat} {hs : List (Option Addr × Nat)} (h : Apt lo hi (some ⟨g, o, none⟩) (x :: hs)) : Apt lo hi (some ⟨g, o', none⟩) hs :=
 ⟨fun b hb => h.top b (by rw [blk_some] at hb ⊢; exact hb), fun i y b hy hb => by
  have := h.in_ (i + 1) y b (by simpa using hy) hb
  exact ⟨this.1, this.2.1, fun e => this.2.2 (by rw [blk_some] at e ⊢; exact e)⟩, fun i j y z b hy hz h1 h2 => by
  have := h.two (i + 1) (j + 1) y z b (by simpa using hy) (by simpa using hz) h1 h2
  omega⟩
/-- block i's pages lie in the same block of memory as before -/
theorem Apt.same {lo hi i : Nat} {A : Option Addr} {hs : List (Option Addr × Nat)} {x y : Option Addr × Nat} (h : Apt lo hi A hs) (hy : hs[i]? = some y) (hx : ∀ b, blk x.1 b → blk y.1 b) : Apt lo hi A (hs.set i x) := by
 have hl := (List.getElem?_eq_some_iff.1 hy).1
 have key : ∀ (j : Nat) (z : Option Addr × Nat) (b : Nat), (hs.set i x)[j]? = some z → blk z.1 b → ∃ z', hs[j]? = some z' ∧ blk z'.1 b := fun j z b hz hb => by
  by_cases hj : j = i
  · subst hj
    rw [List.getElem?_set_self hl] at hz
    cases hz
    exact ⟨y, hy, hx b hb⟩
  · rw [List.getElem?_set_ne (by omega)] at hz
    exact ⟨z, hz, hb⟩
 refine ⟨h.top, fun j z b hz hb => ?_, fun j m z u b hz hu h1 h2 => ?_⟩
 · obtain ⟨z', a1, a2⟩ := key j z b hz hb
   exact h.in_ j z' b a1 a2
 · obtain ⟨z', a1, a2⟩ := key j z b hz h1
   obtain ⟨u', b1, b2⟩ := key m u b hu h2
   exact h.two j m z' u' b a1 b1 a2 b2
theorem Bks.reader {w w' : World} {A : Option Addr} {f : List Bk} {hs : List (Option Addr × Nat)} {R lo hi : Nat} (h : Bks w A f hs) (ha : Agr (· = R) w w') (hApt : Apt lo hi A hs) (hR : R < lo) : Bks w' A f hs :=
 h.keep fun b hb hl => ha.block b hl (fun e => by
  subst e
  rcases hb with hb | ⟨x, hx, hb⟩
  · have := hApt.top _ hb; omega
  · obtain ⟨i, hi'⟩ := List.getElem?_of_mem hx
    have := hApt.in_ i x _ hi' hb; omega)
/-- block k of a flash of four blocks of four pages -/
theorem Bks.pick {w : World} {g o k : Nat} {f : List Bk} {hs : List (Option Addr × Nat)} (h : Bks w (some ⟨g, o, none⟩) f hs) (hl : f.length = 4) (hp : ∀ b ∈ f, b.pages.length = 4) (hk : k < 4) :
 ∃ b pb po cap, f[k]? = some b ∧ hs[k]? = some (some ⟨pb, po, none⟩, cap) ∧ b.pages.length = 4 ∧ 4 ≤ cap ∧ w.cell? ⟨g, o + k * 2, none⟩ = some (.slice (some ⟨pb, po, none⟩) 4 cap) ∧ w.cell? ⟨g, o + k * 2 + 1, none⟩ = some (.int .i64 b.worn) ∧
   w.frozen? ⟨g, o + k * 2, none⟩ = false ∧ w.frozen? ⟨g, o + k * 2 + 1, none⟩ = false ∧ Row w (some ⟨pb, po, none⟩) (pgs b.pages) := by
 obtain ⟨b, hb⟩ := get_some (l := f) (k := k) (by omega)
 have hb4 := hp b (List.mem_of_getElem? hb)
 obtain ⟨⟨X, cap⟩, hx, c0, c1, f0, f1, hr, hc⟩ := h.at_ hb
 dsimp only at hr hc c0
 obtain ⟨pb, po, rfl⟩ := hr.addr (pgs_ne (by intro e; rw [e] at hb4; simp at hb4))
 rw [hb4] at c0 hc
 exact ⟨b, pb, po, cap, hb, hx, hb4, hc, c0, c1, f0, f1, hr⟩
/-- what a draw of a flash answers -/
def FlashPost (B R m : Nat) (w : World) (e : Ending) (w' : World) : Prop :=
 ∃ (g o c : Nat) (f : List Bk), e = .returned (.slice (some ⟨g, o, none⟩) f.length c) ∧ flSmall f ∧ OFl w' w.heap.size w'.heap.size (some ⟨g, o, none⟩) f ∧ Rd w' B R (m + 600) ∧ Agr (· = R) w w'
set_option maxHeartbeats 4000000 in
set_option maxRecDepth 100000 in
theorem spec_l71Flash (B R m : Nat) (w : World) (hm : m ≤ 800000) (hR : Rd w B R m) :
 Calls Try.prog 34 #[.pointer (some ⟨R, 0, none⟩)] w (FlashPost B R m w) := by
 have hRl := hR.lt
 go_enter Try.func34, Try.ntmps34
 go_wp2_with fail
 refine (spec_l71Play B R m _ hm hR).mono ?_
 rintro e w1 ⟨v, A, D, c, lo, hi, s, xs, rfl, hlo, hhi, hc, hO, hst, _, _, _, hR1, hA1⟩
 obtain ⟨hs, hBk, hApt, _, _⟩ := hO
 have hl4 := hst.1.1
 have hsm := Lib.hid (flSmall_of hst.1)
 have hpl := Lib.hid (stFine_pages hst)
 obtain ⟨g, o, rfl⟩ := hBk.addr (by intro e; rw [e] at hl4; simp at hl4)
 have HL := Lib.hid hl4
 generalize s.flash = f at *
 have hs1 := hA1.size
 have hR1a := hR1.alloc (.cells #[.slice (some ⟨g, o, none⟩) 4 c, .slice D 6 6] 94)
 have hBka := hBk.alloc (.cells #[.slice (some ⟨g, o, none⟩) 4 c, .slice D 6 6] 94)
 have hAa : Agr (· = R) w (w1.alloc (.cells #[.slice (some ⟨g, o, none⟩) 4 c, .slice D 6 6] 94)) := hA1.alloc _
 have hhia : hi ≤ (w1.alloc (.cells #[.slice (some ⟨g, o, none⟩) 4 c, .slice D 6 6] 94)).heap.size := by simp; omega
 clear hst hl4 hBk hR1 hA1
 go_wp2_with fail
 refine (spec_pickI 20 20 B R (m + 500) _ rfl (by omega) (by omega) (by omega) hR1a).mono ?_
 rintro e w2 ⟨k, rfl, hk, hR2, hA2⟩
 have hRlo : R < lo := by omega
 have hBk2 : Bks w2 (some ⟨g, o, none⟩) f hs := hBka.reader hA2 hApt hRlo
 have hs2 := hA2.size
 have hA2' := hAa.trans hA2 (fun _ _ h => h)
 have hhi2 : hi ≤ w2.heap.size := by omega
 clear hAa hA2 hBka hR1a hs2 hhia hhi
 replace hR2 : Rd w2 B R (m + 501) := hR2.mono (by omega)
 have P4 : ∀ (p : Nat) (W : World), p ≤ 1000000 → Rd W B R p → _ := fun p W h hr => spec_pickI 4 4 B R p W rfl (by omega) (by omega) h hr
 have HP := Lib.hid P4
 clear P4
 by_cases h0 : k = 0
 · have t0 : ((k : Int) == 0) = true := by subst h0; rfl
   clear h0
   have hR2d := hR2.drew
   have hA2d := hA2'.drew
   have hBk2d := hBk2.drew
   have hhid : hi ≤ w2.drew.heap.size := hhi2
   go_wp2_with fail
   go_region_with (first
    | (go_at_call 57; with_reducible refine (HP.out (m + 501) _ (by omega) hR2d).mono ?_; rintro e w3 ⟨k3, rfl, hk3, hR3, hA3⟩; have hk3' : (k3 : Int) < 4 := (by omega); have hBk3 := hBk2d.reader hA3 hApt hRlo; obtain ⟨b, pb, po, cap, hfb, hhb, hb4, hcap, c0, c1, f0, f1, hRow⟩ := hBk3.pick HL.out hpl.out hk3; have hgl := lt_of_cell c0; have hgR : ¬ g = R := (by have := hApt.top g (blk_some.2 rfl); omega))
    | (go_at_call 57; with_reducible refine (HP.out (m + 501 + 1) _ (by omega) hR3).mono ?_; rintro e w4 ⟨k4, rfl, hk4, hR4, hA4⟩; have hk4' : (k4 : Int) < 4 := (by omega); have hBk4 := hBk3.reader hA4 hApt hRlo; have d0 := (hA4.cell hgl hgR _).trans c0; have hgl4 := lt_of_cell d0)
    | (go_at_call 57; with_reducible refine (HP.out (m + 501 + 1 + 1) _ (by omega) hR4).mono ?_; rintro e w5 ⟨k5, rfl, hk5, hR5, hA5⟩; have hBk5 := hBk4.reader hA5 hApt hRlo; have e0 := (hA5.cell hgl4 hgR _).trans d0; have hgl5 := lt_of_cell e0)
    | (go_at_call 58; with_reducible refine (spec_l71Rec B R (m + 501 + 1 + 1 + 1) _ (by omega) hR5).mono ?_; rintro e w6 ⟨x, rfl, hx, hR6, hA6⟩; have hBk6 := hBk5.reader hA6 hApt hRlo; have g0 := (hA6.cell hgl5 hgR _).trans e0; have hRow6 := (hBk6.pg k3 b _ hfb hhb).1; obtain ⟨q, hq⟩ := get_some (l := b.pages) (k := k4) (by omega); obtain ⟨p0, p1, p2, p3, p4⟩ := hRow6.pg hq; obtain ⟨z0, z1, z2, z3, z4⟩ := hRow6.pgf hq))
   all_goals
    have hW : Wrote w6 (((((w6.setCell ⟨pb, po + k4 * 5, none⟩ (.int .i64 k5)).setCell ⟨pb, po + k4 * 5 + 1, none⟩ (.int .i64 x.kind)).setCell ⟨pb, po + k4 * 5 + 2, none⟩ (.int .i64 x.seq)).setCell ⟨pb, po + k4 * 5 + 3, none⟩ (.int .i64 x.addr)).setCell ⟨pb, po + k4 * 5 + 4, none⟩ (.int .i64 x.val)) pb (po + k4 * 5) (⟨k5, x⟩ : Pg).vs :=
     wrote_setRow pb (⟨k5, x⟩ : Pg).vs (po + k4 * 5) w6 (fun j hj => by
      match j, hj with
      | 0, _ => exact ⟨_, p0⟩
      | 1, _ => exact ⟨_, p1⟩
      | 2, _ => exact ⟨_, p2⟩
      | 3, _ => exact ⟨_, p3⟩
      | 4, _ => exact ⟨_, p4⟩)
    have hA6' := (((hA2d.trans hA3 (fun _ _ h => h)).trans hA4 (fun _ _ h => h)).trans hA5 (fun _ _ h => h)).trans hA6 (fun _ _ h => h)
    have hsz : hi ≤ w6.heap.size := by have h1 := hA3.size; have h2 := hA4.size; have h3 := hA5.size; have h4 := hA6.size; omega
    have hpi := hApt.in_ k3 _ pb hhb (blk_some.2 rfl)
    have hRf := (hR6.agr hW.agr (by omega) (fun b hb e => by have := hR6.le; omega)).mono (n := m + 600) (by omega)
    have hAf := hA6'.trans (S' := (· = pb)) hW.agr (fun b hb e => by omega)
    have hBf := hBk6.setPage (p := ⟨k5, x⟩) hApt hfb hhb (j := k4) (by omega) hW
    have hss := hW.size
    have hsf : flSmall (f.set k3 { b with pages := b.pages.set k4 ⟨k5, x⟩ }) := by
     refine flSmall_set hsm.out ?_ _
     have hb0 := hsm.out.2.2 b (List.mem_of_getElem? hfb)
     refine ⟨by simpa using hb0.1, hb0.2.1, fun q hq => ?_⟩
     rcases mem_set hq with hq | rfl
     · exact hb0.2.2 q hq
     · exact ⟨⟨by dsimp only; omega, by dsimp only; omega⟩, hx⟩
    clear hW hA3 hA4 hA5 hA6 p0 p1 p2 p3 p4
    go_wp2
    go_ret
    exact ⟨g, o, c, f.set k3 { b with pages := b.pages.set k4 ⟨k5, x⟩ }, by rw [List.length_set, HL.out]; rfl, hsf, ⟨hs, hBf, hApt.mono hlo (by omega)⟩, hRf, hAf⟩
 · have t0 : ((k : Int) == 0) = false := by rw [beq_eq_false_iff_ne]; omega
   by_cases h1 : k = 1
   · have t1 : ((k : Int) == 1) = true := by subst h1; rfl
     clear h0 h1
     go_wp2_with fail
     refine (HP.out (m + 501) _ (by omega) hR2).mono ?_
     rintro e w3 ⟨k3, rfl, hk3, hR3, hA3⟩
     have hk3' : (k3 : Int) < 4 := by omega
     have hBk3 := hBk2.reader hA3 hApt hRlo
     have hz := Row.new w3 #[.int .i64 (-1), .int .i64 200, .int .i64 201] 3
     have hR3a := hR3.alloc (.cells #[.int .i64 (-1), .int .i64 200, .int .i64 201] 3)
     have hBk3a := hBk3.alloc (.cells #[.int .i64 (-1), .int .i64 200, .int .i64 201] 3)
     have hA3a := (hA2'.trans hA3 (fun _ _ h => h)).alloc (.cells #[.int .i64 (-1), .int .i64 200, .int .i64 201] 3)
     have hs3 := hA3.size
     have hsw := hA2'.size
     have hsa : w3.heap.size < (w3.alloc (.cells #[.int .i64 (-1), .int .i64 200, .int .i64 201] 3)).heap.size := by simp
     have hne : ¬ w3.heap.size = R := by omega
     go_wp2_with fail
     refine (spec_pickI 3 3 B R (m + 501 + 1) _ rfl (by omega) (by omega) (by omega) hR3a).mono ?_
     rintro e w4 ⟨k4, rfl, hk4, hR4, hA4⟩
     obtain ⟨v4, hv, hv1, hv2⟩ : ∃ v : Int, (#[.int .i64 (-1), .int .i64 200, .int .i64 201] : Array Value).toList[k4]? = some (.int .i64 v) ∧ -1 ≤ v ∧ v ≤ 1000 := by
      rcases (by omega : k4 = 0 ∨ k4 = 1 ∨ k4 = 2) with rfl | rfl | rfl <;> exact ⟨_, rfl, by omega, by omega⟩
     have z0 := (hA4.cell hsa hne k4).trans (hz.at0 hv).1
     have hk4' : (k4 : Int) < 3 := by omega
     have hBk4 := hBk3a.reader hA4 hApt hRlo
     obtain ⟨b, pb, po, cap, hfb, hhb, hb4, hcap, c0, c1, f0, f1, hRow⟩ := hBk4.pick HL.out hpl.out hk3
     have hW := (wrote_one c1 (.int .i64 v4)).less c0
     have hgi := hApt.top g (blk_some.2 rfl)
     have hs4 := hA4.size
     have hA4' := hA3a.trans hA4 (fun _ _ h => h)
     have hBf := hBk4.setHdr (n := v4) hApt hfb hhb (by rw [hb4]; exact hW)
     have hRf := (hR4.agr hW.agr (by omega) (fun b hb e => by have := hR4.le; omega)).mono (n := m + 600) (by omega)
     have hAf := hA4'.trans (S' := (· = g)) hW.agr (fun b hb e => by omega)
     have hss := hW.size
     have hsf : flSmall (f.set k3 { b with worn := v4 }) := by
      refine flSmall_set hsm.out ?_ _
      have hb0 := hsm.out.2.2 b (List.mem_of_getElem? hfb)
      exact ⟨hb0.1, ⟨hv1, hv2⟩, hb0.2.2⟩
     have hsz : hi ≤ w4.heap.size := by simp at hs4; omega
     clear hW hz hR3a hBk3a hA3a hBk3 hA3 hA4 hRow
     go_wp2
     go_ret
     exact ⟨g, o, c, f.set k3 { b with worn := v4 }, by rw [List.length_set, HL.out]; rfl, hsf, ⟨hs, hBf, hApt.mono hlo (by omega)⟩, hRf, hAf⟩
   · have t1 : ((k : Int) == 1) = false := by rw [beq_eq_false_iff_ne]; omega
     by_cases h2 : k = 2
     · have t2 : ((k : Int) == 2) = true := by subst h2; rfl
       clear h0 h1 h2
       go_wp2
       go_ret
       have hl4 := HL.out
       cases f with
       | nil => simp at hl4
       | cons b f =>
         cases hs with
         | nil => have := hBk2.len; simp at this
         | cons x hs =>
           have hl3 : f.length = 3 := by simpa using hl4
           exact ⟨g, o + 2, c - 1, f, by rw [hl3]; rfl, ⟨by omega, by omega, fun y hy => hsm.out.2.2 y (List.mem_cons_of_mem _ hy)⟩, ⟨hs, hBk2.tail, (hApt.mono hlo hhi2).tail⟩, hR2.mono (by omega), hA2'⟩
     · have t2 : ((k : Int) == 2) = false := by rw [beq_eq_false_iff_ne]; omega
       by_cases h3 : k = 3
       · have t3 : ((k : Int) == 3) = true := by subst h3; rfl
         clear h0 h1 h2 h3
         go_wp2_with fail
         refine (HP.out (m + 501) _ (by omega) hR2).mono ?_
         rintro e w3 ⟨k3, rfl, hk3, hR3, hA3⟩
         have hk3' : (k3 : Int) < 4 := by omega
         have hBk3 := hBk2.reader hA3 hApt hRlo
         obtain ⟨b, pb, po, cap, hfb, hhb, hb4, hcap, c0, c1, f0, f1, hRow⟩ := hBk3.pick HL.out hpl.out hk3
         have hW := (wrote_one c0 (.slice (some ⟨pb, po + 5, none⟩) 3 (cap - 1))).more c1
         have hgi := hApt.top g (blk_some.2 rfl)
         have hpi := hApt.in_ k3 _ pb hhb (blk_some.2 rfl)
         have hs3 := hA3.size
         have hA3' := hA2'.trans hA3 (fun _ _ h => h)
         obtain ⟨q, ps, hbp⟩ : ∃ q ps, b.pages = q :: ps := by
          cases h : b.pages with
          | nil => rw [h] at hb4; simp at hb4
          | cons q ps => exact ⟨q, ps, rfl⟩
         have hps : ps.length = 3 := by rw [hbp] at hb4; simpa using hb4
         have hRow2 : Row w3 (some ⟨pb, po + 5, none⟩) (pgs ps) := by
          have := hRow.drop 5
          rw [hbp] at this
          exact this
         have hBf := hBk3.setBlock (c := ⟨ps, b.worn⟩) (x := (some ⟨pb, po + 5, none⟩, cap - 1)) (by rw [HL.out]; exact hk3) (fun j y hy e => (hApt.in_ j y g hy e).2.2 (blk_some.2 rfl)) (by rw [blk_some]; intro e; exact hpi.2.2 (blk_some.2 e.symm)) hRow2 (by show ps.length ≤ cap - 1; omega) (by show Wrote _ _ _ _ [.slice _ ps.length _, _]; rw [hps]; exact hW)
         have hApf := hApt.same (x := (some ⟨pb, po + 5, none⟩, cap - 1)) hhb (fun b hb => by rw [blk_some] at hb ⊢; exact hb)
         have hRf := (hR3.agr hW.agr (by omega) (fun b hb e => by have := hR3.le; omega)).mono (n := m + 600) (by omega)
         have hAf := hA3'.trans (S' := (· = g)) hW.agr (fun b hb e => by omega)
         have hss := hW.size
         have hsf : flSmall (f.set k3 ⟨ps, b.worn⟩) := by
          refine flSmall_set hsm.out ?_ _
          have hb0 := hsm.out.2.2 b (List.mem_of_getElem? hfb)
          exact ⟨by show ps.length ≤ 4; omega, hb0.2.1, fun y hy => hb0.2.2 y (by rw [hbp]; exact List.mem_cons_of_mem _ hy)⟩
         clear hW hA3 hRow hRow2 hbp
         have hcap' : (1 : Int) ≤ 4 := by omega
         go_wp2
         go_ret
         exact ⟨g, o, c, f.set k3 ⟨ps, b.worn⟩, by rw [List.length_set, HL.out]; rfl, hsf, ⟨_, hBf, hApf.mono hlo (by omega)⟩, hRf, hAf⟩
       · have t3 : ((k : Int) == 3) = false := by rw [beq_eq_false_iff_ne]; omega
         clear h0 h1 h2 h3
         go_wp2
         go_ret
         exact ⟨g, o, c, f, by rw [HL.out]; rfl, hsm.out, ⟨hs, hBk2, hApt.mono hlo hhi2⟩, hR2.mono (by omega), hA2'⟩
end Go.Proofs.Ytclnogfmmekooaa
namespace Go.Proofs.Ytclnogfmmekooaa
set_option linter.unusedVariables false
set_option linter.unusedSimpArgs false
open Go.RowKit Go.Maps
set_option maxHeartbeats 400000
/-- a code that can be read -/
structure Code (w : World) (A : Option Addr) (bs : List Nat) (c : Nat) : Prop where
 len : bs.length ≤ c
 cap : c ≤ 9223372036854775807
 byte : ∀ b ∈ bs, b < 256
 row : RRow w A (bytes bs)
def DrawnFl (w w' : World) (g o : Nat) (f : List Bk) : Prop := flSmall f ∧ OFl w' w.heap.size w'.heap.size (some ⟨g, o, none⟩) f ∧ Below w.heap.size w w'
end Go.Proofs.Ytclnogfmmekooaa
namespace Go.Proofs.Ytclnogfmmekooaa
set_option linter.unusedVariables false
set_option linter.unusedSimpArgs false
open Go.RowKit Go.Maps
set_option maxHeartbeats 4000000
set_option maxRecDepth 100000
def loS (a : Int) (b : Bk) : Int := if b.worn < a then b.worn else a
def hiS (a : Int) (b : Bk) : Int := if a < b.worn then b.worn else a
theorem wLo_def (f : List Bk) : wLo f = f.foldl loS 200 := rfl
theorem wHi_def (f : List Bk) : wHi f = f.foldl hiS 0 := rfl
theorem spec_WearSpread (f : List Bk) (A : Option Addr) (c : Nat) (w : World) (hlen : f.length < 1000000000000) (hF : Fl w A f) : Calls Try.prog 12 #[.slice A f.length c] w fun e w' => e = .returned (.int .i64 (if flashOk f then wHi f - wLo f else -1)) ∧ Below w.heap.size w w' := by
 by_cases hok : flashOk f = true
 · have hc := fun w hF => spec_FlashOk f A c w hlen hF
   rw [hok] at hc
   rw [hok]
   have h4 := (flash_four hok).1
   have hw := Lib.hid (flash_four hok).2
   have hLH := Lib.hid (And.intro (wLo_ge hok) (wHi_le hok))
   obtain ⟨b0, hb0⟩ := get_some (l := f) (k := 0) (by omega)
   have hw0 := hw.out b0 (List.mem_of_getElem? hb0)
   have hd0 : f = b0 :: f.drop 1 := by have := drop_cons hb0; simpa using this
   have hL : Hid (wLo f = (f.drop 1).foldl loS b0.worn) := by
    unfold Hid
    rw [wLo_def]
    rw [hd0, List.foldl_cons]
    simp only [List.drop_succ_cons, List.drop_zero]
    congr 1
    unfold loS; split <;> omega
   have hH : Hid (wHi f = (f.drop 1).foldl hiS b0.worn) := by
    unfold Hid
    rw [wHi_def]
    rw [hd0, List.foldl_cons]
    simp only [List.drop_succ_cons, List.drop_zero]
    congr 1
    unfold hiS; split <;> omega
   have HL := Lib.hid h4
   clear hok hd0 h4
   have HC := Lib.hid hc
   clear hc
   go_enter Try.func12, Try.ntmps12
   go_wp2_with fail
   (with_reducible refine (HC.out _ hF).mono ?_)
   rintro e w1 ⟨rfl, hb1⟩
   obtain ⟨hs, hB⟩ := hF.below hb1 (Nat.le_refl _)
   obtain ⟨g, o, rfl⟩ := hB.addr (by rintro rfl; have := HL.out; simp at this)
   clear hF HC
   obtain ⟨x0, _, a0, a1, _⟩ := hB.at_ hb0
   simp only [Nat.zero_mul, Nat.add_zero] at a0 a1
   have hb0' := Lib.hid hb0
   have l0 : (0 : Int) < f.length := by have := HL.out; omega
   clear hb0
   go_wp2
   go_loopw [3, 4, 5] (fun q r i wr => ∃ (k : Nat) (m n : Int), k ≤ f.length ∧ i = .int .i64 k ∧ q = .int .i64 m ∧ r = .int .i64 n ∧ wr = w1 ∧ Hid (wLo f = (f.drop k).foldl loS m) ∧ Hid (wHi f = (f.drop k).foldl hiS n)) (fun _ _ i _ => f.length - (intOf i).toNat)
   case atStart => exact ⟨1, _, _, by have := HL.out; omega, rfl, rfl, rfl, rfl, hL, hH⟩
   case round =>
    clear hL hH
    obtain ⟨k, m, n, hk, rfl, rfl, rfl, rfl, hL, hH⟩ := hrel
    by_cases hlt : k < f.length
    · obtain ⟨b, hb⟩ := get_some hlt
      obtain ⟨x, _, c0, c1, _⟩ := hB.at_ hb
      have hd := Lib.hid (drop_cons hb)
      have hk1 : (k : Int) < f.length := by omega
      clear hb
      go_wp2
      go_roundw
      case rel => exact ⟨k + 1, loS m b, hiS n b, by omega, by go_num, by unfold loS; rfl, by unfold hiS; rfl, by trivial, by rw [Hid, hL.out, hd.out]; rfl, by rw [Hid, hH.out, hd.out]; rfl⟩
      case measure => simp [intOf]; omega
    · obtain rfl : k = f.length := by omega
      have eL : m = wLo f := by rw [hL.out, List.drop_of_length_le (Nat.le_refl _)]; rfl
      have eH : n = wHi f := by rw [hH.out, List.drop_of_length_le (Nat.le_refl _)]; rfl
      subst eL eH
      have hr : IntKind.i64.wrap (wHi f - wLo f) = wHi f - wLo f := by have := hLH.out; rw [IntKind.wrap_i64]; omega
      go_wp2
      go_ret
      exact ⟨ret_int (by first | rfl | (simpa using hr) | (have := hLH.out; exact IntWalk.i64_in _ (by omega))), hb1⟩
 · have hc := fun w hF => spec_FlashOk f A c w hlen hF
   have hf : flashOk f = false := by simpa using hok
   rw [hf] at hc
   rw [hf]
   go_enter Try.func12, Try.ntmps12
   go_wp2_with fail
   (with_reducible refine (hc _ hF).mono ?_)
   rintro e w1 ⟨rfl, hb1⟩
   go_wp2
   go_ret
   exact ⟨ret_int (by simp), hb1⟩
theorem spec_DrawWearSpread (A : Option Addr) (bs : List Nat) (c : Nat) (w : World) (hc : Code w A bs c) :
 Calls Try.prog 18 #[.slice A bs.length c] w fun e w' => ∃ g o c f, e = .returned (.slice (some ⟨g, o, none⟩) f.length c) ∧ DrawnFl w w' g o f := by
 go_enter Try.func18, Try.ntmps18
 go_wp2_with fail
 refine (spec_l6Open A bs c _ hc.len hc.cap hc.byte hc.row).mono ?_
 rintro e w1 ⟨rfl, hR1, hb1⟩
 go_wp2_with fail
 refine (spec_l71Flash _ _ 0 _ (by omega) hR1).mono ?_
 rintro e w2 ⟨g, o, c, f, rfl, hf, hO, hR2, hA2⟩
 have hs := hb1.size
 go_wp2
 go_ret
 exact ⟨g, o, c, f, rfl, hf, hO.mono hs (Nat.le_refl _), hb1.trans (hA2.below (by omega) (fun i hi => by omega))⟩
end Go.Proofs.Ytclnogfmmekooaa
namespace Go.Proofs.Ytclnogfmmekooaa
set_option linter.unusedVariables false
set_option linter.unusedSimpArgs false
open Go.RowKit Go.Conc
/-- An argument's slice points into cells. -/
def Lain (W : World) (A : Option Addr) : Prop := ∀ a, A = some a → a.spot = none ∧ ∃ cs t fr, W.heap[a.block]? = some (.cells cs t fr)
theorem okWide_lain {P : Program} {W : World} {r : Reach} {base : Nat} {t e : TypeId} {a : Option Addr} {l c : Nat} (ht : P.underlying t = some (.slice e)) (h : Value.okWide P W r base t (.slice a l c)) : Lain W a := by
 rintro a rfl
 simp only [Value.okWide, ht, Cell.okWide, Cell.ok] at h
 obtain ⟨_, _, _, h1, row, cells, h2, _⟩ := h
 refine ⟨h1, ?_⟩
 unfold World.shape? at h2
 split at h2
 · rename_i cs t' fr ho
   exact ⟨_, _, _, ho⟩
 · cases h2
theorem start_co {W : World} {A : Option Addr} {bs : List Nat} {c : Nat} (hc : Code W A bs c) (hl : Lain W A) :
 ∃ Gd A0, Co (good Gd) (fun _ => False) A0 W W ∧ VIn (good Gd) A0 (.slice A bs.length c) ∧ Code (cutW (good Gd) W) A bs c := by
 cases A with
 | none =>
   refine ⟨none, fun _ => False, ⟨⟨fun r hr => hr.elim, fun c l h e => by cases e⟩, fun b hb => hb.elim, .refl W⟩, .slice0 _ _, ?_⟩
   rw [cutW_none rfl]
   exact hc
 | some a =>
   obtain ⟨hs, cs, t, fr, ho⟩ := hl a rfl
   obtain ⟨cb, off, spot⟩ := a
   simp only at hs ho
   subst hs
   have hlt : cb < W.heap.size := (Array.getElem?_eq_some_iff.1 ho).1
   have hrow : ∀ j, j < bs.length → ∃ n : Int, W.cell? ⟨cb, off + j, none⟩ = some (.int .u8 n) := by
    intro j hj
    obtain ⟨b, o, e, hr⟩ := hc.row (by intro e; rw [List.map_eq_nil_iff.1 e] at hj; simp at hj)
    cases e
    refine ⟨(bs[j] : Nat), hr j _ ?_⟩
    simp [bytes, hj]
   have hcut : (cutW (good (some (cb, off, off + bs.length))) W).heap[cb]? = some (.cells (cs.extract 0 (off + bs.length)) t fr) := by
    rw [cutW_some rfl]
    simp [Array.getElem?_modify, ho, cutO]
   have hcell : ∀ j u, W.cell? ⟨cb, j, none⟩ = some u → cs[j]? = some u := by
    intro j u h
    simpa [World.cell?, ho] using h
   refine ⟨some (cb, off, off + bs.length), fun b => b = cb, ⟨⟨?_, ?_⟩, fun b hb => hb.elim, .refl W⟩, .slice _ _ ⟨rfl, ?_⟩, ⟨hc.len, hc.cap, hc.byte, fun hn => ?_⟩⟩
   · rintro r rfl
     refine ⟨_, hcut, .cells fun j v hj hv => ?_⟩
     have hj' : off ≤ j := by
      have : (good (some (r, off, off + bs.length))).lo r = off := by simp [Cfg.lo, good]
      rwa [this] at hj
     rw [Array.getElem?_extract] at hv
     split at hv
     · rename_i hlt2
       obtain ⟨n, hn⟩ := hrow (j - off) (by omega)
       rw [show off + (j - off) = j by omega] at hn
       have := hcell j _ hn
       rw [show 0 + j = j by omega, this] at hv
       cases hv
       exact .int _ _
     · cases hv
   · intro c l h e
     cases e
     rw [cut_size]; exact hlt
   · simp [Cfg.lo, good]
   · obtain ⟨b, o, e, hr⟩ := hc.row hn
     cases e
     refine ⟨cb, off, rfl, fun j u hj => ?_⟩
     have hjl : j < bs.length := by have := (List.getElem?_eq_some_iff.1 hj).1; simpa [bytes] using this
     have h1 := hcell _ _ (hr j u hj)
     have h2 : (cs.extract 0 (off + bs.length))[off + j]? = some u := by
      rw [Array.getElem?_extract]
      have hsz := (Array.getElem?_eq_some_iff.1 h1).1
      rw [if_pos (by omega)]
      simpa using h1
     simp [World.cell?, hcut, h2]
/-- From the walk to the run. -/
theorem run_of_fine {Post : Value → World → Prop} {fr : Frame} {W : World} (h : Fine Try.prog Post (fun _ => False) (Go.Conc.G fr []) W) :
 ∃ M last o w' t', runNT Try.prog (M + 1) (solo (Go.Conc.G fr []) W) #[] = (.ended o w', t') ∧ runN Try.prog M (solo (Go.Conc.G fr []) W) = .next last ∧ step Try.prog last = .ended o w' ∧ Go.Conc.Good Try.prog Post last o w' t' := by
 have hE := FineB.mono (B := 0) h (Nat.zero_le _) W.tape W.drawn #[Go.Conc.G fr []] none #[] (fun _ => 0) (fun _ => False) (fun l hl => hl.elim) rfl (leavers_one _ _) past_nil
 rw [tp_self, ← solo_eq_crowd] at hE
 exact hE
end Go.Proofs.Ytclnogfmmekooaa
namespace Go.Proofs.Ytclnogfmmekooaa
set_option linter.unusedVariables false
set_option linter.unusedSimpArgs false
open Go.RowKit Go.WideShapes Go.ChangeShapes
section
variable {H : Type} {enc : TypeId × Value → H} {P : Program}
/-- an argument reads behind the call as before, if below the heap's old size nothing has turned -/
theorem trod_kept {t : TypeId} (hl : laidOutB P = true) (hr : P.readableRec t = true) (hrow : t < P.types.size) {W W' : World} {v : Value} {d : DataW H} {ps qs : List MemPlace} {sp : Nat → Bool}
 (h : DataW.Trod enc P W 0 (fun _ => true) true t v d ps) (hb : Below W.heap.size W W') (hlt : ∀ x ∈ qs, x.block < W.heap.size) (hsp : ∀ p ∈ qs, sp p.block = true) (hq : ∀ x ∈ ps, x ∈ qs) : DataW.Trod enc P W' 0 sp true t v d ps :=
 WideElems.Trod_stays hl hr hrow h (fun x hx => hb.same (hlt x (hq x hx))) (fun x hx => hsp x (hq x hx))
theorem post_of_below {f : Func} {s : ChangeSpec} {apart fresh handsOn again : Bool} {W W' : World} {args : Array Value} {v : Value} {ds gs : List (DataW H)} {before pa pv : List MemPlace}
 (hW : DataW.Whole enc P f.params.toList s.vars apart W args.toList ds gs before)
 (hres : ∀ (b : Nat) (sp : Nat → Bool) (hd : Bool), DataW.TrodAll enc P W' b sp hd f.resultTypes.toList (v.resultList f.resultTypes.size) (s.fn H (ds ++ gs)).results [])
 (hargs : ∀ sp : Nat → Bool, (∀ p ∈ before, sp p.block = true) → DataW.TrodAll enc P W' 0 sp true f.params.toList args.toList (s.fn H (ds ++ gs)).args pa)
 (hvars : ∀ sp : Nat → Bool, (∀ p ∈ before, sp p.block = true) → DataW.TrodVars enc P W' sp s.vars (s.fn H (ds ++ gs)).vars pv)
 (hps : before = pa ++ pv) (hb : Below W.heap.size W W')
 (hok : ∀ (j : Nat) (t : TypeId) (r : Value), f.resultTypes[j]? = some t → (v.resultList f.resultTypes.size)[j]? = some r → Value.okWide P W' .any 0 t r) :
 s.post enc P f apart fresh handsOn again W args v W' := by
 have hlt : ∀ p ∈ before, p.block < W.heap.size := fun p hp => hW.lt p hp
 have hold : ∀ p ∈ before, (fun b => decide (b < W.heap.size)) p.block = true := fun p hp => by simpa using hlt p hp
 refine ⟨ds, gs, before, [], pa, pv, hW, hres _ _ _, hargs _ hold, hvars _ hold, World.keptBut_mono (fun p hp => ⟨hp, ?_⟩) (hb.frame (· ∈ before)), fun _ => ?_⟩
 · rw [hps, List.mem_append] at hp
   exact Or.inr hp
 · obtain ⟨_, _, _, _, _, hz, hn⟩ := hW
   refine ⟨hok, _, _, ([] ++ pa) ++ pv, ⟨[] ++ pa, pv, trodAll_append (hargs _ (fun _ _ => rfl)) (hres _ _ _), hvars _ (fun _ _ => rfl), rfl, ?_, ?_⟩, ?_⟩
   · intro b off hp
     have hin : MemPlace.cell b off ∈ before := by rw [hps]; simpa using hp
     rw [hb.frozen (hlt _ hin)]
     exact hz b off hin
   · intro ha
     have := hn ha
     rw [hps] at this
     simpa using this
   · intro p hp _
     rw [hps]
     simpa using hp
end
end Go.Proofs.Ytclnogfmmekooaa
namespace Go.Proofs.Ytclnogfmmekooaa
set_option linter.unusedVariables false
set_option linter.unusedSimpArgs false
open Go.Conc
theorem leaving_of {H : Type} {enc : TypeId × Value → H} {a : Assume} {C : Checked} {os : Os} {f : FuncId} {fn : Func} {s : ChangeSpec} {conds : List PathCond} {apart fresh handsOn again : Bool}
 (own : ownKnob C.prog.godebug = none) (started : os.Started) (hfn : C.prog.funcs[f]? = some fn)
 (wit : ∃ (w : World) (tape : Tape) (i : Input), w.os = os ∧ (w.forCall tape i).Shaped C.prog ∧ i.vars = [] ∧ Input.okWide C.prog (w.forCall tape i) .any w.heap.size f i ∧
  s.pre6 enc C.prog fn conds apart (w.forCall tape i).memory i.args ∧ a.holds C.prog (lone (Frame.enter C.prog f i.args .normal) [] (w.forCall tape i)))
 (runs : ∀ (W : World) (base : Nat) (args : Array Value) (ds gs : List (DataW H)) (before : List MemPlace),
  (∀ (j : Nat) t v, fn.params[j]? = some t → args[j]? = some v → Value.okWide C.prog W .any base t v) → DataW.Whole enc C.prog fn.params.toList s.vars apart W args.toList ds gs before →
  ∃ M last o w' t', runNT C.prog (M + 1) (solo (G (Frame.enter C.prog f args .normal) []) W) #[] = (.ended o w', t') ∧ runN C.prog M (solo (G (Frame.enter C.prog f args .normal) []) W) = .next last ∧
    step C.prog last = .ended o w' ∧ Conc.Good C.prog (fun v W' => s.post enc C.prog fn apart fresh handsOn again W args v { W' with tape := W.tape }) last o w' t') :
 ReturnsInLeavingWide a C os f .any (s.pre6 enc C.prog fn conds apart) (s.post enc C.prog fn apart fresh handsOn again) := by
 refine returnsInLeavingWide_of_good own started wit fun w tape i _ _ _ hok hpre _ => ?_
 obtain ⟨_, _, _, fn', h1, _, _, _, _, hval⟩ := hok
 obtain rfl : fn = fn' := Option.some.inj (hfn.symm.trans h1)
 obtain ⟨⟨ds, gs, before, hw, _⟩, _⟩ := hpre
 obtain ⟨M, last, o, w', t', g1, g2, g3, g4⟩ := runs (w.forCall tape i) w.heap.size i.args ds gs before hval (DataW.Whole.of_heap (w' := w.forCall tape i) (by rfl) hw)
 refine ⟨M, last, o, w', t', g1, g2, g3, g4.mono fun v hp => ?_⟩
 have := ChangeSpec.post_blind hp
 exact this
end Go.Proofs.Ytclnogfmmekooaa
namespace Go.Proofs.Ytclnogfmmekooaa
set_option linter.unusedVariables false
set_option linter.unusedSimpArgs false
open Go.RowKit Go.ChangeShapes Go.WideShapes Go.Deep
set_option maxRecDepth 100000
section
variable {H : Type} {enc : TypeId × Value → H} {w : World} {base fuel : Nat} {spare : Nat → Bool} {held : Bool}
theorem plain_addr' {w : World} {a : Addr} {u : Value} (h : w.cell? a = some u) : ∃ b o, a = ⟨b, o, none⟩ := by
 obtain ⟨b, o, s⟩ := a
 cases s with
 | none => exact ⟨b, o, rfl⟩
 | some s =>
   have : w.cell? ⟨b, o, some s⟩ = none := by
    unfold World.cell?
    split
    · exact if_pos rfl
    · rfl
   rw [this] at h; cases h
theorem cellsOf_u8 : Try.prog.cellsOf 5 = 1 := by kernel_rfl
theorem bytes_of {cs : List Value} {x : DataW H × List MemPlace} (h : DataW.trod enc Try.prog w base spare held fuel 29 cs = some x) : ∃ A c bs, cs = [.slice A (List.length bs) c] ∧ Code w A bs c := by
 rcases open_ints Try.underlying29 Try.underlying5 cellsOf_u8 h with ⟨rfl, _⟩ | ⟨a, len, cap, zs, rfl, _, hlc, hcm, hzl, _, hcell, hwf⟩
 · exact ⟨none, 0, [], rfl, ⟨Nat.le_refl _, by omega, by simp, fun h => absurd rfl h⟩⟩
 · have hlz : len ≤ zs.length := by rw [hzl]; split <;> omega
   have hz : ∀ i, i < zs.length → zs.getD i 0 ∈ zs := fun i hi => by
    rw [List.getD_eq_getElem?_getD, List.getElem?_eq_getElem hi]
    exact List.getElem_mem hi
   have hr : ∀ n ∈ zs, 0 ≤ n ∧ n < 256 := fun n hn => by
    have := hwf n hn
    have h1 : IntKind.u8.min = 0 := rfl
    have h2 : IntKind.u8.max = 255 := rfl
    change (decide (IntKind.u8.min ≤ n) && decide (n ≤ IntKind.u8.max)) = true at this
    rw [h1, h2] at this
    simp at this
    omega
   refine ⟨some a, cap, (List.range len).map fun i => (zs.getD i 0).toNat, by simp, ⟨by simpa using hlc, by unfold maxLen at hcm; omega, fun b hb => ?_, fun hne => ?_⟩⟩
   · obtain ⟨i, hi, rfl⟩ := List.mem_map.1 hb
     have := hr _ (hz i (by have := List.mem_range.1 hi; omega))
     omega
   · have hn : 0 < len := by
      rcases Nat.eq_zero_or_pos len with h0 | h0
      · rw [h0] at hne; simp [bytes] at hne
      · exact h0
     have h0 := hcell 0 (by omega)
     obtain ⟨b, o, rfl⟩ := plain_addr' (a := a) (by simpa [Addr.add] using h0)
     refine ⟨b, o, rfl, fun j u hj => ?_⟩
     have hjl : j < len := by
      have := (List.getElem?_eq_some_iff.1 hj).1
      simpa [bytes] using this
     have hc := hcell j (by omega)
     rw [addr_add] at hc
     rw [hc]
     have hb := hr _ (hz j (by omega))
     rw [bytes, List.getElem?_map, List.getElem?_map, List.getElem?_range hjl] at hj
     simp only [Option.map_some, Option.some.injEq] at hj
     rw [← hj]
     have : (((zs.getD j 0).toNat : Nat) : Int) = zs.getD j 0 := by omega
     rw [this]
end
end Go.Proofs.Ytclnogfmmekooaa
namespace Go.Proofs.Ytclnogfmmekooaa
set_option linter.unusedVariables false
set_option linter.unusedSimpArgs false
open Go.RowKit Go.Maps
set_option maxHeartbeats 400000
theorem small_len {f : List Bk} (h : flSmall f) : f.length < 1000000000000 := by have := h.1; omega
theorem small_pages {f : List Bk} (h : flSmall f) : ∀ b ∈ f, b.pages.length < 1000000000000 := fun b hb => by have := (h.2.2 b hb).1; omega
theorem wiped_len (f : List Bk) (n : Int) (t : Bool) (h : f.length ≤ 4) : (flashWipe f n t).1.length ≤ 4 := by
 unfold flashWipe
 split
 · simp
 · split
   · exact h
   · show (wipe f _ t).length ≤ 4; rw [wipe_len]; exact h
theorem wiped_pages (f : List Bk) (n : Int) (t : Bool) (h : ∀ b ∈ f, b.pages.length ≤ 4) : ∀ b ∈ (flashWipe f n t).1, b.pages.length ≤ 4 := by
 unfold flashWipe
 split
 · intro b hb; simp at hb
 · split
   · exact h
   · intro b hb
     unfold wipe at hb
     rcases mem_set hb with hb | rfl
     · exact h b hb
     · simp
end Go.Proofs.Ytclnogfmmekooaa
namespace Go.Proofs.Ytclnogfmmekooaa
set_option linter.unusedVariables false
set_option linter.unusedSimpArgs false
open Go.RowKit Go.Maps
set_option maxHeartbeats 400000
theorem flashWipe_eq {f : List Bk} {i : Nat} (h : flashOk f = true) (hi : i < 4) (t : Bool) : flashWipe f i t = if (f.getD i zbk).worn = 200 then (f, false) else (wipe f i t, true) := by
 have hb : blockB (i : Int) = true := by unfold blockB; simp; omega
 unfold flashWipe
 rw [if_neg (by rw [h, hb]; simp), Int.toNat_natCast]
theorem flashWipe_true {f : List Bk} {n : Int} {t : Bool} (h : (flashWipe f n t).2 = true) : flashOk f = true ∧ ∃ i : Nat, n = i ∧ i < 4 ∧ (f.getD i zbk).worn ≠ 200 ∧ flashWipe f n t = (wipe f i t, true) := by
 unfold flashWipe at h ⊢
 split at h
 · cases h
 · rename_i h1
   have h2 : flashOk f = true := by
    rcases Bool.eq_false_or_eq_true (flashOk f) with h | h
    · exact h
    · exact absurd (.inl h) h1
   have h3 : blockB n = true := by
    rcases Bool.eq_false_or_eq_true (blockB n) with h | h
    · exact h
    · exact absurd (.inr h) h1
   rw [if_neg h1]
   have hn : 0 ≤ n ∧ n < 4 := by unfold blockB at h3; simpa using h3
   split at h
   · cases h
   · rename_i h4
     refine ⟨h2, n.toNat, by omega, by omega, h4, ?_⟩
     rw [if_neg h4]
theorem wiped_b {f : List Bk} {i : Nat} {b : Bk} (h : f[i]? = some b) (t : Bool) : (wipe f i t)[i]? = some ⟨List.replicate 4 (if t then ⟨2, rc0⟩ else pg0), b.worn + 1⟩ := by
 rw [wipe_at (List.getElem?_eq_some_iff.1 h).1 t, List.getD_eq_getElem?_getD, h]; rfl
theorem getD_of {f : List Bk} {i : Nat} {b : Bk} (h : f[i]? = some b) : f.getD i zbk = b := by rw [List.getD_eq_getElem?_getD, h]; rfl
theorem wiped_small {f : List Bk} (h : flSmall f) (h4 : f.length = 4) (i : Nat) (t : Bool) : (∀ b ∈ wipe f i t, b.pages.length < 1000000000000) := fun b hb => by
 unfold wipe at hb
 rcases mem_set hb with hb | rfl
 · have := (h.2.2 b hb).1; omega
 · simp
/-- the header of a block that was wiped, and its pages -/
theorem wiped_cells {w : World} {lo hi : Nat} {A : Option Addr} {f : List Bk} {i : Nat} {t : Bool} {b : Bk} (hO : OFl w lo hi A (wipe f i t)) (h : f[i]? = some b) :
 ∃ xb xo zb zo cz, A = some ⟨xb, xo, none⟩ ∧ w.cell? ⟨xb, xo + i * 2, none⟩ = some (.slice (some ⟨zb, zo, none⟩) 4 cz) ∧ w.cell? ⟨xb, xo + i * 2 + 1, none⟩ = some (.int .i64 (b.worn + 1)) ∧ Row w (some ⟨zb, zo, none⟩) (pgs (List.replicate 4 (if t then ⟨2, rc0⟩ else pg0))) := by
 obtain ⟨ks, hBk, _⟩ := hO
 have hl := (List.getElem?_eq_some_iff.1 (wiped_b h t)).1
 obtain ⟨xb, xo, rfl⟩ := hBk.addr (by intro e; rw [e] at hl; simp at hl)
 obtain ⟨⟨Z, cz⟩, _, c0, c1, _, _, hRow, _⟩ := hBk.at_ (wiped_b h t)
 dsimp only at c0 hRow
 rw [show (List.replicate 4 (if t = true then (⟨2, rc0⟩ : Pg) else pg0)).length = 4 from by simp] at c0
 obtain ⟨zb, zo, rfl⟩ := hRow.addr (pgs_ne (by cases t <;> decide))
 exact ⟨xb, xo, zb, zo, cz, rfl, c0, c1, hRow⟩
end Go.Proofs.Ytclnogfmmekooaa
namespace Go.Proofs.Ytclnogfmmekooaa
set_option linter.unusedVariables false
set_option linter.unusedSimpArgs false
open Go.RowKit Go.Shelf
attribute [local go_sem] Oper.semAt_some
set_option maxHeartbeats 400000
abbrev PgAt := Nat × Nat × Pg
def tagFrom (i : Nat) : Nat → List Pg → List PgAt
 | _, [] => []
 | j, p :: ps => (i, j, p) :: tagFrom i (j + 1) ps
def allFrom : Nat → List Bk → List PgAt
 | _, [] => []
 | i, b :: f => tagFrom i 0 b.pages ++ allFrom (i + 1) f
def encP (x : PgAt) : Array Value := #[.agg #[.int .i64 (x.1 : Int), .int .i64 (x.2.1 : Int)], .agg #[.int .i64 x.2.2.state, .int .i64 x.2.2.rc.kind, .int .i64 x.2.2.rc.seq, .int .i64 x.2.2.rc.addr, .int .i64 x.2.2.rc.val]]
theorem all_next {f : List Bk} {k : Nat} {B : Bk} (h : f[k]? = some B) : allFrom k (f.drop k) = tagFrom k 0 (B.pages.drop 0) ++ allFrom (k + 1) (f.drop (k + 1)) := by rw [drop_cons h]; rfl
theorem tag_next {ps : List Pg} {i m : Nat} {p : Pg} (h : ps[m]? = some p) : tagFrom i m (ps.drop m) = (i, m, p) :: tagFrom i (m + 1) (ps.drop (m + 1)) := by rw [drop_cons h]; rfl
set_option maxRecDepth 100000 in
set_option maxHeartbeats 4000000 in
theorem eachPage1_in (F : Fence) (n : Nat) (hF : F.fn 65) (hro : F.round = none) (hn : 1 ≤ n) (l Bs n₀ g o c : Nat) (f : List Bk) (hs : List (Option Addr × Nat)) (J Jx : List PgAt → World → Prop)
 (W : World) (hn₀ : n₀ ≤ W.heap.size) (hJ : AbidesFrom W.heap.size J)
 (hY : ∀ pre (x : PgAt) W1, J pre W1 → pre.length < (allFrom 0 f).length → x.1 < f.length ∧ x ∈ allFrom 0 f → YieldAt F (n - 1) Try.prog l (encP x) W1 fun e W' =>
  (e = .returned (.bool true) ∧ J (pre ++ [x]) W' ∧ Below n₀ W1 W') ∨ (e = .returned (.bool false) ∧ Jx (pre ++ [x]) W'))
 (hBs : W.cell? ⟨Bs, 0, none⟩ = some (.slice (some ⟨g, o, none⟩) f.length c)) (hl : f.length < 1000000000000) (hp : ∀ b ∈ f, b.pages.length < 1000000000000)
 (hBk : Bks W (some ⟨g, o, none⟩) f hs) (hlow : ∀ b, fblk (some ⟨g, o, none⟩) hs b → b < n₀) (h0 : J [] W) :
 CallsIn F n Try.prog 65 #[.func (.yield l) #[] #[], .pointer (some ⟨Bs, 0, none⟩)] W fun e W' => (∃ v, e = .returned v) ∧
  ((∃ ys, ys = allFrom 0 f ∧ J ys W') ∨ (∃ pre, pre <+: allFrom 0 f ∧ Jx pre W')) := by
 have HP := Lib.hid hp
 have HLOW := Lib.hid hlow
 have hT0 : Hid (allFrom 0 f = [] ++ allFrom 0 (f.drop 0)) := rfl
 have hJa : ∀ pre (V : World) (o : Obj), J pre V → J pre (V.alloc o) := fun pre V o h => hJ pre V _ none h (World.grownBy_alloc V o none) (fun r e => by cases e)
 have HJA := Lib.hid hJa
 clear hp hlow hJa hJ
 refine callsIn_of_wp Try.func65 rfl hF ?_ hro
 simp only [Try.ntmps65, List.size_toArray, List.length_cons, List.length_nil, Nat.reduceAdd, Nat.reduceSub, Array.replicate_succ, Array.replicate_zero, List.push_toArray, List.append_toArray, List.nil_append, List.cons_append]
 gi_wp2
 gi_loopw [9] (fun i wr => ∃ (k : Nat) (pre : List PgAt), k ≤ f.length ∧ i = .int .i64 k ∧ J pre wr ∧ Below n₀ W wr ∧ Hid (allFrom 0 f = pre ++ allFrom k (f.drop k)))
  (fun i _ => f.length - (intOf i).toNat)
 case atStart => exact ⟨0, [], Nat.zero_le _, rfl, h0, Below.refl _ _, hT0⟩
 case round =>
  clear hT0
  obtain ⟨k, pre, hk, rfl, hJs, hB, hT⟩ := hrel
  by_cases hlt : k < f.length
  · obtain ⟨B, hb⟩ := get_some hlt
    have hBkr : Bks wr (some ⟨g, o, none⟩) f hs := hBk.keep fun q hq hl => hB.block q (HLOW.out q (by
     rcases hq with hq | ⟨x, hx, hq⟩
     · exact .inl hq
     · obtain ⟨i, hi⟩ := List.getElem?_of_mem hx
       exact .inr ⟨i, x, hi, hq⟩))
    obtain ⟨⟨Ap, cp⟩, _, z0, z1, _, _, _, _⟩ := hBkr.at_ hb
    have hT1 : Hid (allFrom 0 f = pre ++ (tagFrom k 0 (B.pages.drop 0) ++ allFrom (k + 1) (f.drop (k + 1)))) := by rw [Hid, hT.out, all_next hb]
    have hpl := HP.out B (List.mem_of_getElem? hb)
    have hk1 : (k : Int) < f.length := by omega
    have HB := Lib.hid hb
    have hJb := HJA.out pre wr (.cells #[.slice Ap B.pages.length cp, .int .i64 B.worn] 35) hJs
    have hBb : Below n₀ W (wr.alloc (.cells #[.slice Ap B.pages.length cp, .int .i64 B.worn] 35)) := hB.alloc (by have := hB.size; omega) _
    dsimp only at *
    clear hb hBkr hT
    gi_wp2
    gi_loopw [17] (fun j wl => ∃ (m : Nat) (pre2 : List PgAt), m ≤ B.pages.length ∧ j = .int .i64 m ∧ J pre2 wl ∧ Below n₀ W wl ∧ Hid (allFrom 0 f = pre2 ++ (tagFrom k m (B.pages.drop m) ++ allFrom (k + 1) (f.drop (k + 1)))))
     (fun j _ => B.pages.length - (intOf j).toNat)
    case atStart => exact ⟨0, pre, Nat.zero_le _, rfl, hJb, hBb, hT1⟩
    case round =>
     clear hT1 hJb hBb z0 z1
     obtain ⟨m, pre2, hm, rfl, hJm, hBm, hTm⟩ := hrel
     by_cases hltm : m < B.pages.length
     · obtain ⟨p, hq⟩ := get_some hltm
       have hBkm := hBk.keep (fun q hq hl => hBm.block q (HLOW.out q (by
        rcases hq with hq | ⟨x, hx, hq⟩
        · exact .inl hq
        · obtain ⟨i, hi⟩ := List.getElem?_of_mem hx
          exact .inr ⟨i, x, hi, hq⟩)))
       have hRm := (hBkm.pg k B _ HB.out (by assumption)).1
       obtain ⟨pb, po, rfl⟩ := hRm.addr (pgs_ne (by intro e; rw [e] at hltm; simp at hltm))
       obtain ⟨c0, c1, c2, c3, c4⟩ := hRm.pg hq
       have hm1 : (m : Int) < B.pages.length := by omega
       have hJp := HJA.out pre2 _ (.cells #[.int .i64 p.state, .int .i64 p.rc.kind, .int .i64 p.rc.seq, .int .i64 p.rc.addr, .int .i64 p.rc.val] 42) hJm
       have hBp := hBm.alloc (by have := hBm.size; omega) (.cells #[.int .i64 p.state, .int .i64 p.rc.kind, .int .i64 p.rc.seq, .int .i64 p.rc.addr, .int .i64 p.rc.val] 42)
       have hT2 : Hid (allFrom 0 f = (pre2 ++ [(k, m, p)]) ++ (tagFrom k (m + 1) (B.pages.drop (m + 1)) ++ allFrom (k + 1) (f.drop (k + 1)))) := by
        rw [Hid, hTm.out, tag_next hq, List.append_assoc]; rfl
       have hlen : pre2.length < (allFrom 0 f).length := by rw [hT2.out, List.length_append, List.length_append]; simp; omega
       obtain ⟨fn, tmps, assign, body, hy, hR⟩ := hY pre2 (k, m, p) _ hJp hlen ⟨hlt, by rw [hT2.out]; simp⟩
       dsimp only [encP] at hy
       clear hq hlen hTm hJm
       gi_wp2
       refine hR.mono ?_
       rintro e W3 (⟨rfl, hJ3, hk3⟩ | ⟨rfl, hJx3⟩)
       · gi_wp2
         go_roundw
         case rel => exact ⟨m + 1, pre2 ++ [(k, m, p)], by omega, by simp, hJ3, hBp.trans hk3, hT2⟩
         case measure => simp [intOf]; omega
       · gi_wp2
         refine bodyPost_ret (results_none rfl _ _ _) rfl ?_
         exact ⟨⟨_, rfl⟩, .inr ⟨_, by rw [hT2.out]; exact List.prefix_append _ _, hJx3⟩⟩
     · obtain rfl : m = B.pages.length := by omega
       have hT3 : Hid (allFrom 0 f = pre2 ++ allFrom (k + 1) (f.drop (k + 1))) := by rw [Hid, hTm.out, List.drop_of_length_le (Nat.le_refl _)]; rfl
       gi_wp2
       go_roundw
       case rel => exact ⟨k + 1, pre2, by omega, by simp, hJm, hBm, hT3⟩
       case measure => simp [intOf]; omega
  · obtain rfl : k = f.length := by omega
    have hend : pre = allFrom 0 f := by rw [hT.out, List.drop_of_length_le (Nat.le_refl _)]; simp [allFrom]
    clear hT
    gi_wp2
    go_end0
    exact ⟨⟨_, rfl⟩, .inl ⟨_, hend, hJs⟩⟩
end Go.Proofs.Ytclnogfmmekooaa
namespace Go.Proofs.Ytclnogfmmekooaa
set_option linter.unusedVariables false
set_option linter.unusedSimpArgs false
open Go.RowKit Go.Shelf
attribute [local go_sem] Oper.semAt_some
set_option maxHeartbeats 400000
set_option maxHeartbeats 1000000 in
theorem eachPage_in (F : Fence) (n : Nat) (h : F.fn 45) (hro : F.round = none) (a : Option Addr) (len cap : Nat) (w : World) :
 CallsIn F n Try.prog 45 #[.slice a len cap] w fun e w' => e = .returned (.func (.func 65) #[] #[.pointer (some ⟨w.heap.size, 0, none⟩)]) ∧ w' = w.alloc (.cells #[.slice a len cap] 25) := by
 refine callsIn_of_wp Try.func45 rfl h ?_ hro
 simp only [Try.ntmps45, List.size_toArray, List.length_cons, List.length_nil, Nat.reduceAdd, Nat.reduceSub, Array.replicate_succ, Array.replicate_zero, List.push_toArray, List.append_toArray, List.nil_append, List.cons_append]
 gi_wp2
 go_ret
 exact ⟨rfl, rfl⟩
theorem eachPage_stops (F : Fence) (n : Nat) (hF : F.fn 65) (hro : F.round = none) (hn : 1 ≤ n) (Bs n₀ g o c : Nat) (f : List Bk) (hs : List (Option Addr × Nat)) (w : World) (hB : Bs < w.heap.size) (hn₀ : n₀ ≤ w.heap.size)
 (hBs : w.cell? ⟨Bs, 0, none⟩ = some (.slice (some ⟨g, o, none⟩) f.length c)) (hl : f.length < 1000000000000) (hp : ∀ b ∈ f, b.pages.length < 1000000000000)
 (hBk : Bks w (some ⟨g, o, none⟩) f hs) (hlow : ∀ b, fblk (some ⟨g, o, none⟩) hs b → b < n₀) :
 SeqStopsK F n Try.prog 65 #[.pointer (some ⟨Bs, 0, none⟩)] encP (Below n₀) (fun ys => ys = allFrom 0 f) (fun pre => pre <+: allFrom 0 f) (allFrom 0 f).length w := fun l J Jx W hW hJ _ hY h0 => by
 refine eachPage1_in F n hF hro hn l Bs n₀ g o c f hs J Jx W (Nat.le_trans hn₀ hW.size) hJ (fun pre x W1 h1 h2 _ => hY pre x W1 h1 h2) ((hW.cell (p := ⟨Bs, 0, none⟩) hB).trans hBs) hl hp (hBk.keep fun q hq hl => hW.block q (by omega)) hlow h0
/-- the greatest number of pages that have come -/
def bigStep (n : Int) (x : PgAt) : Int := if x.2.2.state = 1 then max n x.2.2.rc.seq else n
def bigOf (pre : List PgAt) : Int := pre.foldl bigStep 0
theorem bigOf_snoc (pre : List PgAt) (x : PgAt) : bigOf (pre ++ [x]) = bigStep (bigOf pre) x := by unfold bigOf; rw [List.foldl_append]; rfl
theorem mem_tag {i : Nat} {x : PgAt} : ∀ {ps : List Pg} {j : Nat}, x ∈ tagFrom i j ps → x.2.2 ∈ ps
 | [], _, h => by simp [tagFrom] at h
 | p :: ps, j, h => by
   rw [tagFrom] at h
   rcases List.mem_cons.1 h with rfl | h
   · exact List.mem_cons_self ..
   · exact List.mem_cons_of_mem _ (mem_tag h)
theorem mem_all {x : PgAt} : ∀ {f : List Bk} {i : Nat}, x ∈ allFrom i f → ∃ b ∈ f, x.2.2 ∈ b.pages
 | [], _, h => by simp [allFrom] at h
 | b :: f, i, h => by
   rw [allFrom] at h
   rcases List.mem_append.1 h with h | h
   · exact ⟨b, List.mem_cons_self .., mem_tag h⟩
   · obtain ⟨c, hc, hx⟩ := mem_all h
     exact ⟨c, List.mem_cons_of_mem _ hc, hx⟩
theorem big_range : ∀ {xs : List PgAt} {n : Int}, (∀ x ∈ xs, pageOk x.2.2 = true) → 0 ≤ n → n ≤ 600 → 0 ≤ xs.foldl bigStep n ∧ xs.foldl bigStep n ≤ 600
 | [], n, _, h1, h2 => ⟨h1, h2⟩
 | x :: xs, n, h, h1, h2 => by
   have hx := pageOk_seq (h x (List.mem_cons_self ..))
   refine big_range (xs := xs) (n := bigStep n x) (fun y hy => h y (List.mem_cons_of_mem _ hy)) ?_ ?_
   · unfold bigStep; split <;> omega
   · unfold bigStep; split <;> omega
theorem bigOf_range {f : List Bk} (h : flashOk f = true) : 0 ≤ bigOf (allFrom 0 f) ∧ bigOf (allFrom 0 f) ≤ 600 := by
 refine big_range (fun x hx => ?_) (by omega) (by omega)
 obtain ⟨b, hb, hx⟩ := mem_all hx
 have := blocksGo_true (f := f) (seen := []) (by unfold flashOk at h; simp at h; exact h.2) b hb
 exact this.2 _ hx
/-- cells laid in a block -/
def Laid (W : World) (B : Nat) (t : TypeId) (cs : Array Value) : Prop := W.heap[B]? = some (.cells cs t (0, 0))
theorem Laid.lt {W : World} {B : Nat} {t : TypeId} {cs : Array Value} (h : Laid W B t cs) : B < W.heap.size := (Array.getElem?_eq_some_iff.1 h).1
theorem Laid.cell {W : World} {B : Nat} {t : TypeId} {cs : Array Value} (h : Laid W B t cs) (i : Nat) {u : Value} (hu : cs[i]? = some u) : W.cell? ⟨B, i, none⟩ = some u := by simp [World.cell?, show W.heap[B]? = _ from h, hu]
theorem laid_own (B : Nat) (t : TypeId) (cs : Array Value) (n₀ : Nat) : OwnFrom n₀ (fun (_ : Unit) W => Laid W B t cs) := fun _ X Y row hs hg hr =>
 (hg.block B hs.lt (fun e' => by obtain ⟨_, o, ho, hc⟩ := hr B e'.symm; rw [show X.heap[B]? = _ from hs] at ho; cases ho; cases hc)).trans hs
def pgv (p : Pg) : Array Value := #[.int .i64 p.state, .int .i64 p.rc.kind, .int .i64 p.rc.seq, .int .i64 p.rc.addr, .int .i64 p.rc.val]
def findNext (f : List Bk) : Int := if flashOk f = true then bigOf (allFrom 0 f) + 1 else 0
set_option maxRecDepth 100000 in
set_option maxHeartbeats 4000000 in
theorem impl_FindNext (f : List Bk) (A : Option Addr) (n c : Nat) (w : World) (hn : n = f.length) (hF : Fl w A f) :
 Calls Try.prog 28 #[.slice A n c] w fun e w' => e = .returned (.int .i64 (findNext f)) ∧ Below w.heap.size w w' := by
 subst hn
 refine (callsIn_wide (n := 6)).1 ?_
 refine callsIn_of_wp_marks Try.func28 rfl trivial ?_ rfl
 simp only [Try.ntmps28, List.size_toArray, List.length_cons, List.length_nil, Nat.reduceAdd, Nat.reduceSub, Array.replicate_succ, Array.replicate_zero, List.push_toArray, List.append_toArray, List.nil_append, List.cons_append]
 by_cases hok : flashOk f = true
 · have hfl := flashOk_len hok
   have HFL := Lib.hid hfl
   have hfin : Hid (findNext f = bigOf (allFrom 0 f) + 1) := by unfold Hid findNext; rw [if_pos hok]
   have HP := Lib.hid (show ∀ b ∈ f, b.pages.length < 1000000000000 from fun b hb => by rw [(flashOk_shape hok b hb).1]; omega)
   obtain ⟨hs, hBk⟩ := hF
   have hFc := Lib.hid (impl_FlashOk f A c w ⟨hs, hBk⟩)
   rw [hok] at hFc
   have hrg := bigOf_range hok
   have HPL := Lib.hid (fun b hb => (flashOk_shape hok b hb).1)
   clear hfl hok
   gi_wp2_with (first | (refine ⟨trivial, ?_⟩; gi_at_call 31; refine (callsIn_wide.2 hFc.out).mono ?_; rintro e w1 ⟨rfl, hb1⟩) | (refine ⟨trivial, ?_⟩; gi_at_call 45; refine (eachPage_in Fence.wide _ trivial rfl _ _ _ _).mono ?_; rintro e w2 ⟨rfl, rfl⟩))
   obtain ⟨g, o, rfl⟩ := hBk.addr (by intro e; have := HFL.out; rw [e] at this; simp at this)
   have hlow : ∀ b, fblk (some ⟨g, o, none⟩) hs b → b < w1.heap.size := fun b hb => by
    have h4 := HFL.out
    have hs1 := hb1.size
    rcases hb with hb | ⟨i, x, hx, hb⟩
    · rw [blk_some] at hb
      subst hb
      obtain ⟨B, hB⟩ := get_some (l := f) (k := 0) (by omega)
      obtain ⟨_, _, c0, _⟩ := hBk.at_ hB
      have := lt_of_cell c0
      omega
    · obtain ⟨B, hB⟩ := get_some (l := f) (k := i) (by rw [← hBk.len]; exact (List.getElem?_eq_some_iff.1 hx).1)
      have hr := (hBk.pg i B x hB hx).1
      by_cases hn : B.pages = []
      · have := HPL.out B (List.mem_of_getElem? hB); rw [hn] at this; simp at this
      · obtain ⟨b', o', he, hc⟩ := hr (pgs_ne hn)
        rw [he, blk_some] at hb
        subst hb
        obtain ⟨q, hq⟩ := get_some (l := pgs B.pages) (k := 0) (by rw [pgs_len]; have := List.length_pos_iff.2 hn; omega)
        have := lt_of_cell (hc 0 q hq).1
        omega
   have hBk1 := hBk.below hb1 (Nat.le_refl _)
   have bS := (Boxed.new w1 3 (.int .i64 0)).alloc (.cells #[.slice (some ⟨g, o, none⟩) f.length c] 25)
   have bA := Boxed.new (w1.alloc (.cells #[.int .i64 0] 3)) 25 (.slice (some ⟨g, o, none⟩) f.length c)
   simp only [World.size_alloc] at bA
   have hB0 : Below w1.heap.size w1 ((w1.alloc (.cells #[.int .i64 0] 3)).alloc (.cells #[.slice (some ⟨g, o, none⟩) f.length c] 25)) := ((Below.refl _ w1).alloc (Nat.le_refl _) _).alloc (by simp) _
   have hsz : ((w1.alloc (.cells #[.int .i64 0] 3)).alloc (.cells #[.slice (some ⟨g, o, none⟩) f.length c] 25)).heap.size = w1.heap.size + 2 := by simp
   have hBk2 := (hBk1.alloc (.cells #[.int .i64 0] 3)).alloc (.cells #[.slice (some ⟨g, o, none⟩) f.length c] 25)
   obtain ⟨W0, hW0⟩ : ∃ W0, (w1.alloc (.cells #[.int .i64 0] 3)).alloc (.cells #[.slice (some ⟨g, o, none⟩) f.length c] 25) = W0 := ⟨_, rfl⟩
   rw [hW0] at bS bA hB0 hsz hBk2 ⊢
   have hl4 : f.length < 1000000000000 := by rw [HFL.out]; omega
   clear hW0 hBk hBk1
   refine wpIn_rangeFunc_ownH rfl (by omega) (gf := 65) (lb := #[.pointer (some ⟨w1.heap.size + 1, 0, none⟩)]) rfl trivial (enters_of Try.func65 (by kernel_rfl) rfl)
    (eachPage_stops Fence.wide _ trivial rfl (by omega) (w1.heap.size + 1) w1.heap.size g o c f hs W0 (by omega) (by omega) bA.cell hl4 HP.out hBk2 hlow) belowK_t (belowK_b (by omega)) (Below.refl _ _) (fun _ => rfl)
    (fun pre W => Boxed W w1.heap.size 3 (.int .i64 (bigOf pre)) ∧ Below w1.heap.size w1 W)
    (fun _ _ _ => False)
    (OwnFrom.and (Own.from (boxed_own _ _ _) _) (ownFrom_below (Nat.le_refl _) (by omega)))
    (fun _ _ _ _ _ hs _ _ => hs)
    ⟨bS, hB0⟩
    (fun x a' W => ∃ Bx, w1.heap.size < Bx ∧ Laid W Bx 42 (pgv x.2.2) ∧ a' = { tmps := #[.slice (some ⟨g, o, none⟩) f.length c, undef, .int .i64 0, .pointer (some ⟨w1.heap.size, 0, none⟩), undef, .pointer (some ⟨Bx, 0, none⟩), .slice (some ⟨g, o, none⟩) f.length c, .bool true, .bool false, .slice (some ⟨g, o, none⟩) f.length c, .func (.func 65) #[] #[.pointer (some ⟨w1.heap.size + 1, 0, none⟩)], .agg #[.int .i64 (x.1 : Int), .int .i64 (x.2.1 : Int)], .agg (pgv x.2.2), undef, undef, undef, undef, undef, undef, undef, undef, undef, undef], defers := [] })
    (fun x a' _ X Y row hs hg hr => by obtain ⟨Bx, h1, h2, h3⟩ := hs; exact ⟨Bx, h1, laid_own Bx _ _ _ () X Y row h2 hg hr, h3⟩)
    ?assign ?body ?done ?stop
   case assign =>
    rintro l pre x W K ⟨bS1, hB1⟩ hK
    dsimp only [encP]
    gi_wp2
    exact hK _ _ ((KeepsOthers.alloc _ _).from _) ((Below.refl _ W).alloc hB1.size _) ⟨bS1.alloc _, hB1.alloc hB1.size _⟩ ⟨W.heap.size, bS1.lt, World.alloc_heap_new W _, rfl⟩
   case body =>
    rintro l pre x a' W hl ⟨r, hr⟩ ⟨bS1, hB1⟩ ⟨Bx, hBx, bX, rfl⟩ hlt
    have cS := bS1.cell
    have fS := bS1.frozen
    have x0 : W.cell? ⟨Bx, 0, none⟩ = some (.int .i64 x.2.2.state) := bX.cell 0 rfl
    have x1 : W.cell? ⟨Bx, 1, none⟩ = some (.int .i64 x.2.2.rc.kind) := bX.cell 1 rfl
    have x2 : W.cell? ⟨Bx, 2, none⟩ = some (.int .i64 x.2.2.rc.seq) := bX.cell 2 rfl
    have x3 : W.cell? ⟨Bx, 3, none⟩ = some (.int .i64 x.2.2.rc.addr) := bX.cell 3 rfl
    have x4 : W.cell? ⟨Bx, 4, none⟩ = some (.int .i64 x.2.2.rc.val) := bX.cell 4 rfl
    by_cases h1 : x.2.2.state = 1
    · have hst : Hid (bigOf (pre ++ [x]) = max (bigOf pre) x.2.2.rc.seq) := by rw [Hid, bigOf_snoc]; unfold bigStep; rw [if_pos h1]
      rw [h1] at x0
      gi_wp2
      · have hm : max (bigOf pre) x.2.2.rc.seq = x.2.2.rc.seq := by omega
        exact ⟨(KeepsOthers.setCell _ _ _).from _, (Below.refl _ W).setCell (p := ⟨w1.heap.size, 0, none⟩) (Nat.le_refl _) _, by rw [hst.out, hm]; exact bS1.set _, hB1.setCell (p := ⟨w1.heap.size, 0, none⟩) (Nat.le_refl _) _⟩
      · have hm : max (bigOf pre) x.2.2.rc.seq = bigOf pre := by omega
        exact ⟨(KeepsOthers.setCell _ _ _).from _, (Below.refl _ W).setCell (p := ⟨w1.heap.size, 0, none⟩) (Nat.le_refl _) _, by rw [hst.out, hm]; exact bS1.set _, hB1.setCell (p := ⟨w1.heap.size, 0, none⟩) (Nat.le_refl _) _⟩
    · have hst : Hid (bigOf (pre ++ [x]) = bigOf pre) := by rw [Hid, bigOf_snoc]; unfold bigStep; rw [if_neg h1]
      have h1' : (x.2.2.state == 1) = false := by simpa using h1
      gi_wp2
      exact ⟨KeepsFrom.refl _ _, Below.refl _ _, by rw [hst.out]; exact bS1, hB1⟩
   case done =>
    rintro D ys W hD rfl ⟨bS1, hB1⟩ hK
    have cS := bS1.cell
    have hr := hrg
    have e1 : IntKind.i64.wrap (bigOf (allFrom 0 f) + 1) = bigOf (allFrom 0 f) + 1 := IntWalk.i64_in _ (by omega)
    gi_wp2
    refine ⟨by simp, .inl ⟨_, _, rfl, run_takeDeferred hK, ?_⟩⟩
    exact ⟨_, results_tmp rfl _ _ _, by rw [hfin.out]; rfl, hb1.trans ((hB1.trans (belowK_b (w := w1) (Nat.le_refl _) W D _ _ (by omega) hK rfl rfl)).mono hb1.size)⟩
   case stop =>
    rintro D c pre W _ _ h _
    exact h.elim
 · have hok' : flashOk f = false := by simpa using hok
   have hfin : Hid (findNext f = 0) := by unfold Hid findNext; rw [if_neg hok]
   have hFc := Lib.hid (impl_FlashOk f A c w hF)
   rw [hok'] at hFc
   gi_wp2_with (first | (refine ⟨trivial, ?_⟩; gi_at_call 31; refine (callsIn_wide.2 hFc.out).mono ?_; rintro e w1 ⟨rfl, hb1⟩))
   exact ⟨_, results_tmp rfl _ _ _, by rw [hfin.out]; rfl, hb1⟩
end Go.Proofs.Ytclnogfmmekooaa
namespace Go.Proofs.Ytclnogfmmekooaa
set_option linter.unusedVariables false
set_option linter.unusedSimpArgs false
open Go.RowKit Go.Maps
set_option maxHeartbeats 400000
theorem flFine_of {f : List Bk} (h : flashOk f = true) : flFine f := by
 have h2 := blocksGo_true (f := f) (seen := []) (by unfold flashOk at h; simp at h; exact h.2)
 exact ⟨flashOk_len h, fun b hb => ⟨(flashOk_shape h b hb).1, (flashOk_shape h b hb).2.1, (flashOk_shape h b hb).2.2, (h2 b hb).2⟩⟩
theorem mostPs_max : ∀ (ps : List Pg) (n m : Int), mostPs (max n m) ps = max n (mostPs m ps)
 | [], _, _ => rfl
 | p :: ps, n, m => by
   show mostPs (max (max n m) p.rc.seq) ps = max n (mostPs (max m p.rc.seq) ps)
   rw [show max (max n m) p.rc.seq = max n (max m p.rc.seq) by omega]
   exact mostPs_max ps n _
theorem clean_seq {p : Pg} (h : pageOk p = true) (h1 : p.state ≠ 1) : p.rc.seq = 0 := by
 unfold pageOk at h
 rw [if_neg h1] at h
 split at h
 · have : p.rc = rc0 := by simpa using h
   rw [this]; rfl
 · cases h
theorem tag_fold : ∀ (ps : List Pg) (i j : Nat) (n : Int), (∀ p ∈ ps, pageOk p = true) → 0 ≤ n → (tagFrom i j ps).foldl bigStep n = mostPs n ps ∧ 0 ≤ mostPs n ps
 | [], _, _, _, _, h => ⟨rfl, h⟩
 | p :: ps, i, j, n, hp, h => by
   have hs : bigStep n (i, j, p) = max n p.rc.seq := by
    unfold bigStep
    dsimp only
    split
    · rfl
    · rename_i h1
      have := clean_seq (hp p (List.mem_cons_self ..)) h1
      omega
   have ih := tag_fold ps i (j + 1) (max n p.rc.seq) (fun q hq => hp q (List.mem_cons_of_mem _ hq)) (by omega)
   rw [tagFrom, List.foldl_cons, hs]
   exact ih
theorem all_fold : ∀ (f : List Bk) (i : Nat) (n : Int), (∀ b ∈ f, ∀ p ∈ b.pages, pageOk p = true) → 0 ≤ n → (allFrom i f).foldl bigStep n = f.foldl (fun n b => max n (most b)) n
 | [], _, _, _, _ => rfl
 | b :: f, i, n, hp, h => by
   obtain ⟨h1, h2⟩ := tag_fold b.pages i 0 n (hp b (List.mem_cons_self ..)) h
   rw [allFrom, List.foldl_append, h1, List.foldl_cons]
   have h3 : mostPs n b.pages = max n (most b) := by
    have := mostPs_max b.pages n 0
    rw [show max n 0 = n by omega] at this
    exact this
   rw [← h3]
   exact all_fold f (i + 1) _ (fun c hc => hp c (List.mem_cons_of_mem _ hc)) h2
theorem findNext_eq {f : List Bk} (h : flashOk f = true) : findNext f = next f := by
 unfold findNext next topSeq bigOf
 rw [if_pos h, all_fold f 0 0 (flFine_pages (flFine_of h)) (by omega)]
theorem big_le {M : Int} : ∀ {xs : List PgAt} {n : Int}, n ≤ M → (∀ x ∈ xs, x.2.2.state = 1 → x.2.2.rc.seq ≤ M) → xs.foldl bigStep n ≤ M
 | [], _, h, _ => h
 | x :: xs, n, h, hx => by
   refine big_le (xs := xs) (n := bigStep n x) ?_ (fun y hy => hx y (List.mem_cons_of_mem _ hy))
   unfold bigStep
   split
   · rename_i h1; have := hx x (List.mem_cons_self ..) h1; omega
   · exact h
theorem le_big0 : ∀ {xs : List PgAt} {n : Int}, n ≤ xs.foldl bigStep n
 | [], _ => by show _ ≤ _; exact Int.le_refl _
 | x :: xs, n => by
   have h1 : n ≤ bigStep n x := by unfold bigStep; split <;> omega
   have h2 := le_big0 (xs := xs) (n := bigStep n x)
   show n ≤ xs.foldl bigStep (bigStep n x)
   omega
theorem le_big {x : PgAt} (h1 : x.2.2.state = 1) : ∀ {xs : List PgAt} {n : Int}, x ∈ xs → x.2.2.rc.seq ≤ xs.foldl bigStep n
 | [], _, h => by cases h
 | y :: xs, n, h => by
   show _ ≤ xs.foldl bigStep (bigStep n y)
   rcases List.mem_cons.1 h with rfl | h
   · have h2 : x.2.2.rc.seq ≤ bigStep n x := by unfold bigStep; rw [if_pos h1]; omega
     have h3 := le_big0 (xs := xs) (n := bigStep n x)
     omega
   · exact le_big h1 h
theorem tag_mem {i : Nat} {p : Pg} : ∀ {ps : List Pg} {j : Nat}, p ∈ ps → ∃ y ∈ tagFrom i j ps, y.2.2 = p
 | [], _, h => by cases h
 | q :: ps, j, h => by
   rw [tagFrom]
   rcases List.mem_cons.1 h with rfl | h
   · exact ⟨(i, j, p), List.mem_cons_self .., rfl⟩
   · obtain ⟨y, hy, e⟩ := tag_mem (j := j + 1) h
     exact ⟨y, List.mem_cons_of_mem _ hy, e⟩
theorem all_mem {p : Pg} {b : Bk} (hp : p ∈ b.pages) : ∀ {f : List Bk} {i : Nat}, b ∈ f → ∃ y ∈ allFrom i f, y.2.2 = p
 | [], _, h => by cases h
 | c :: f, i, h => by
   rw [allFrom]
   rcases List.mem_cons.1 h with rfl | h
   · obtain ⟨y, hy, e⟩ := tag_mem (i := i) (j := 0) hp
     exact ⟨y, List.mem_append_left _ hy, e⟩
   · obtain ⟨y, hy, e⟩ := all_mem hp (i := i + 1) h
     exact ⟨y, List.mem_append_right _ hy, e⟩
theorem wiped_big (f : List Bk) (k : Nat) (t : Bool) : bigOf (allFrom 0 (wipe f k t)) ≤ bigOf (allFrom 0 f) := by
 unfold bigOf
 refine big_le (le_big0) (fun x hx h1 => ?_)
 obtain ⟨b, hb, hp⟩ := mem_all hx
 unfold wipe at hb
 rcases mem_set hb with hb | rfl
 · obtain ⟨y, hy, e⟩ := all_mem hp (i := 0) hb
   rw [← e] at h1 ⊢
   exact le_big h1 hy
 · have := List.eq_of_mem_replicate hp
   rw [this] at h1
   cases t <;> exact absurd h1 (by decide)
theorem findNext_wipe {f : List Bk} {k : Nat} {t : Bool} (h1 : flashOk f = true) (h2 : flashOk (wipe f k t) = true) : 1 ≤ findNext (wipe f k t) ∧ findNext (wipe f k t) ≤ findNext f := by
 have := wiped_big f k t
 have hr := bigOf_range h2
 unfold findNext
 rw [if_pos h1, if_pos h2]
 omega
theorem findNext_new : findNext flashNew = 1 := by decide
end Go.Proofs.Ytclnogfmmekooaa
namespace Go.Proofs.Ytclnogfmmekooaa
set_option linter.unusedVariables false
set_option linter.unusedSimpArgs false
open Go.RowKit Go.Maps
set_option maxHeartbeats 400000
theorem impl_freePages (b : Bk) (A : Option Addr) (n c : Nat) (w : World) (hn : n = b.pages.length) (hl : b.pages.length < 1000000000000) (hR : Row w A (pgs b.pages)) :
 Calls Try.prog 42 #[.agg #[.slice A n c, .int .i64 b.worn]] w fun e w' => e = .returned (.int .i64 (clean b)) ∧ Below w.heap.size w w' := by
 subst hn
 obtain ⟨ps, n⟩ := b
 dsimp only at *
 have hB0 : Below w.heap.size w (w.alloc (.cells #[.slice A ps.length c, .int .i64 n] 35)) := by (repeat (first | (with_reducible exact Below.refl _ _) | (with_reducible assumption) | (refine Below.setCell ?_ (by first | omega | exact hB.size | exact hb.size | (have h := hB.size; simp; omega) | (have h := hb.size; simp; omega) | (simp; omega) | simp) _) | (refine Below.alloc ?_ (by first | omega | exact hB.size | exact hb.size | (have h := hB.size; simp; omega) | (have h := hb.size; simp; omega) | (simp; omega) | simp) _) | (refine Below.drew ?_)))
 have hT : Hid ((clean ⟨ps, n⟩ : Int) = 0 + (ps.drop 0).countP isClean) := by unfold Hid clean; simp
 go_enter Try.func42, Try.ntmps42
 go_wp2
 go_loopw [3, 9] (fun q i wr => ∃ (k m : Nat), k ≤ ps.length ∧ i = .int .i64 k ∧ q = .int .i64 m ∧ m ≤ k ∧ Below w.heap.size w wr ∧ Hid ((clean ⟨ps, n⟩ : Int) = m + (ps.drop k).countP isClean)) (fun _ i _ => ps.length - (intOf i).toNat)
 case atStart => exact ⟨0, 0, by omega, rfl, rfl, by omega, hB0, hT⟩
 case round =>
  clear hT hB0
  obtain ⟨k, m, hk, rfl, rfl, hm, hB, hT⟩ := hrel
  by_cases hlt : k < ps.length
  · obtain ⟨p, hp⟩ := get_some hlt
    obtain ⟨bk, o, rfl⟩ := hR.addr (pgs_ne (by rintro rfl; simp at hlt))
    obtain ⟨c0, c1, c2, c3, c4⟩ := (hR.below hB (Nat.le_refl _)).pg hp
    have hd := Lib.hid (drop_cons hp)
    have hk1 : (k : Int) < ps.length := by omega
    have hB2 : ∀ o, Below w.heap.size w (wr.alloc o) := fun o => hB.alloc hB.size o
    clear hp
    by_cases h0 : p.state = 0
    · have hi : Hid (isClean p = true) := by unfold Hid isClean; simp [h0]
      rw [h0] at c0
      clear h0
      go_wp2
      go_roundw
      case rel => exact ⟨k + 1, m + 1, by omega, by go_num, by go_num, by omega, hB2 _, by rw [Hid, hT.out, hd.out, List.countP_cons, hi.out]; simp; omega⟩
      case measure => simp [intOf]; omega
    · have hi : Hid (isClean p = false) := by unfold Hid isClean; simp [h0]
      go_wp2
      go_roundw
      case rel => exact ⟨k + 1, m, by omega, by go_num, rfl, by omega, hB2 _, by rw [Hid, hT.out, hd.out, List.countP_cons, hi.out]; simp⟩
      case measure => simp [intOf]; omega
  · obtain rfl : k = ps.length := by omega
    go_wp2
    go_ret
    exact ⟨ret_int (by rw [hT.out, List.drop_of_length_le (Nat.le_refl _)]; simp), hB⟩
set_option maxHeartbeats 2000000 in
theorem impl_seqUsed (f : List Bk) (s : Int) (A : Option Addr) (n c : Nat) (w : World) (hn : n = f.length) (hl : f.length < 1000000000000) (hp : ∀ b ∈ f, b.pages.length < 1000000000000) (hF : Fl w A f) :
 Calls Try.prog 43 #[.slice A n c, .int .i64 s] w fun e w' => e = .returned (.bool (seqIn f s)) ∧ Below w.heap.size w w' := by
 subst hn
 obtain ⟨hs, hBk⟩ := hF
 have HP := Lib.hid hp
 have hT : Hid (seqIn f s = (f.drop 0).any (bkHas s)) := rfl
 clear hp
 go_enter Try.func43, Try.ntmps43
 go_wp2
 go_loopw [11] (fun i wr => ∃ (k : Nat), k ≤ f.length ∧ i = .int .i64 k ∧ Below w.heap.size w wr ∧ Hid (seqIn f s = (f.drop k).any (bkHas s))) (fun i _ => f.length - (intOf i).toNat)
 case atStart => exact ⟨0, by omega, rfl, Below.refl _ _, hT⟩
 case round =>
  clear hT
  obtain ⟨k, hk, rfl, hB, hT⟩ := hrel
  by_cases hlt : k < f.length
  · obtain ⟨B, hBb⟩ := get_some hlt
    obtain ⟨g, o, rfl⟩ := hBk.addr (by rintro rfl; simp at hlt)
    obtain ⟨⟨Ap, cp⟩, _, z0, z1, _, _, hR, _⟩ := (hBk.below hB (Nat.le_refl _)).at_ hBb
    have hd := Lib.hid (drop_cons hBb)
    have hpl := HP.out B (List.mem_of_getElem? hBb)
    have hk1 : (k : Int) < f.length := by omega
    obtain ⟨ps, n⟩ := B
    dsimp only at *
    have hB2 : Below w.heap.size w (wr.alloc (.cells #[.slice Ap ps.length cp, .int .i64 n] 35)) := hB.alloc hB.size _
    have hR2 := hR.alloc (.cells #[.slice Ap ps.length cp, .int .i64 n] 35)
    have hT0 : Hid (seqIn f s = ((ps.drop 0).any (hasSeq s) || (f.drop (k + 1)).any (bkHas s))) := by rw [Hid, hT.out, hd.out]; rfl
    clear hBb hT hd
    go_wp2
    go_loopw [18] (fun j wl => ∃ (m : Nat), m ≤ ps.length ∧ j = .int .i64 m ∧ Below w.heap.size w wl ∧ Row wl Ap (pgs ps) ∧ Hid (seqIn f s = ((ps.drop m).any (hasSeq s) || (f.drop (k + 1)).any (bkHas s)))) (fun j _ => ps.length - (intOf j).toNat)
    case atStart => exact ⟨0, by omega, rfl, hB2, hR2, hT0⟩
    case round =>
     clear hT0 hB2 hR2
     obtain ⟨m, hm, rfl, hBl, hRl, hT⟩ := hrel
     by_cases hltm : m < ps.length
     · obtain ⟨p, hq⟩ := get_some hltm
       obtain ⟨pb, po, rfl⟩ := hRl.addr (pgs_ne (by rintro rfl; simp at hltm))
       obtain ⟨c0, c1, c2, c3, c4⟩ := hRl.pg hq
       have hd := Lib.hid (drop_cons hq)
       have hm1 : (m : Int) < ps.length := by omega
       have hT1 : Hid (seqIn f s = (hasSeq s p || ((ps.drop (m + 1)).any (hasSeq s) || (f.drop (k + 1)).any (bkHas s)))) := by rw [Hid, hT.out, hd.out, List.any_cons, Bool.or_assoc]
       have hB3 := fun (o : Obj) => hBl.alloc hBl.size o
       have hR3 := fun (o : Obj) => hRl.alloc o
       clear hq hT hd
       by_cases h1 : p.state = 1
       · by_cases h2 : p.rc.seq = s
         · have hi : Hid (hasSeq s p = true) := by unfold Hid hasSeq; simp [h1, h2]
           rw [h1] at c0
           rw [h2] at c2
           clear h1 h2
           go_wp2
           go_ret
           exact ⟨ret_bool (by rw [hT1.out, hi.out]; rfl), hB3 _⟩
         · have hi : Hid (hasSeq s p = false) := by unfold Hid hasSeq; simp [h1, h2]
           rw [h1] at c0
           have h2' : (p.rc.seq == s) = false := by simpa using h2
           clear h1
           go_wp2
           go_roundw
           case rel => exact ⟨m + 1, by omega, by go_num, hB3 _, hR3 _, by rw [Hid, hT1.out, hi.out]; rfl⟩
           case measure => simp [intOf]; omega
       · have hi : Hid (hasSeq s p = false) := by unfold Hid hasSeq; simp [h1]
         have h1' : (p.state == 1) = false := by simpa using h1
         go_wp2
         go_roundw
         case rel => exact ⟨m + 1, by omega, by go_num, hB3 _, hR3 _, by rw [Hid, hT1.out, hi.out]; rfl⟩
         case measure => simp [intOf]; omega
     · obtain rfl : m = ps.length := by omega
       go_wp2
       go_roundw
       case rel => exact ⟨k + 1, by omega, by go_num, hBl, by rw [Hid, hT.out, List.drop_of_length_le (Nat.le_refl _)]; rfl⟩
       case measure => simp [intOf]; omega
  · obtain rfl : k = f.length := by omega
    go_wp2
    go_ret
    exact ⟨ret_bool (by rw [hT.out, List.drop_of_length_le (Nat.le_refl _)]; rfl), hB⟩
/-- what FlashWrite answers -/
def flashWrite (f : List Bk) (block : Int) (r : Rc) (torn : Bool) : List Bk × Bool :=
 if flashOk f = false ∨ blockB block = false ∨ recOk r = false then ([], false) else writeR f block.toNat r torn
theorem clean_le4 {b : Bk} (h : b.pages.length = 4) : clean b ≤ 4 := by rw [← h]; exact clean_le b
end Go.Proofs.Ytclnogfmmekooaa
