/- Walks: drawn events. -/
import Derived.Test.YtfkjhnfbajflaaaG15
namespace Go.Proofs.Ytfkjhnfbajflaaa
set_option linter.unusedVariables false
set_option linter.unusedSimpArgs false
open Go.RowKit Go.Maps
set_option maxHeartbeats 400000
def evFine (e : Ev) : Prop := (1 ≤ e.kind ∧ e.kind ≤ 4) ∧ (1 ≤ e.a ∧ e.a ≤ 6) ∧ (0 ≤ e.b ∧ e.b ≤ 9) ∧ (0 ≤ e.c ∧ e.c ≤ 9)
set_option maxHeartbeats 4000000 in
set_option maxRecDepth 100000 in
theorem spec_l71Event (B R m : Nat) (w : World) (hm : m ≤ 900000) (hR : Rd w B R m) :
    Calls Try.prog 70 #[.pointer (some ⟨R, 0, none⟩)] w fun e w' => ∃ x : Ev, e = .returned (.agg #[.int .i64 x.kind, .int .i64 x.a, .int .i64 x.b, .int .i64 x.c, .bool x.torn]) ∧ evFine x ∧ Rd w' B R (m + 7) ∧ Agr (· = R) w w' := by
  have hRl := hR.lt
  have hq := Row.new w #[.int .i64 0, .int .i64 0, .int .i64 0, .int .i64 0, .bool false] 101
  obtain ⟨q0, f0⟩ := hq.at0 (j := 0) rfl
  obtain ⟨q1, f1⟩ := hq.at0 (j := 1) rfl
  obtain ⟨q2, f2⟩ := hq.at0 (j := 2) rfl
  obtain ⟨q3, f3⟩ := hq.at0 (j := 3) rfl
  obtain ⟨q4, f4⟩ := hq.at0 (j := 4) rfl
  have hR0 := hR.alloc (.cells #[.int .i64 0, .int .i64 0, .int .i64 0, .int .i64 0, .bool false] 101)
  have hA0 : Agr (· = R) w (w.alloc (.cells #[.int .i64 0, .int .i64 0, .int .i64 0, .int .i64 0, .bool false] 101)) := (Agr.refl _ _).alloc _
  have hs0 : w.heap.size < (w.alloc (.cells #[.int .i64 0, .int .i64 0, .int .i64 0, .int .i64 0, .bool false] 101)).heap.size := by simp
  have hne : ¬ w.heap.size = R := by omega
  clear hq
  go_enter Try.func70, Try.ntmps70
  go_wp2_with fail
  refine (spec_pickI 6 6 B R (m + 0) _ rfl (by omega) (by omega) (by omega) hR0).mono ?_
  rintro e w1 ⟨k1, rfl, hk1, hR1, hB1⟩
  replace q0 := (hB1.cell hs0 hne 0).trans q0
  replace f0 := (hB1.fz hs0 hne 0).trans f0
  replace q1 := (hB1.cell hs0 hne 1).trans q1
  replace f1 := (hB1.fz hs0 hne 1).trans f1
  replace q2 := (hB1.cell hs0 hne 2).trans q2
  replace f2 := (hB1.fz hs0 hne 2).trans f2
  replace q3 := (hB1.cell hs0 hne 3).trans q3
  replace f3 := (hB1.fz hs0 hne 3).trans f3
  replace q4 := (hB1.cell hs0 hne 4).trans q4
  replace f4 := (hB1.fz hs0 hne 4).trans f4
  have hs1 : w.heap.size < w1.heap.size := Nat.lt_of_lt_of_le hs0 hB1.size
  have hA1 := hA0.trans hB1 (fun _ _ h => h)
  have e1 : IntKind.i64.wrap (1 + (k1 : Int)) = 1 + k1 := IntWalk.i64_in _ (by omega)
  clear hR0 hA0 hs0 hB1
  go_wp2_with fail
  refine (spec_pickI 10 10 B R (m + 1) _ rfl (by omega) (by omega) (by omega) hR1).mono ?_
  rintro e w2 ⟨k2, rfl, hk2, hR2, hB2⟩
  replace q0 := (hB2.cell hs1 hne 0).trans q0
  replace f0 := (hB2.fz hs1 hne 0).trans f0
  replace q1 := (hB2.cell hs1 hne 1).trans q1
  replace f1 := (hB2.fz hs1 hne 1).trans f1
  replace q2 := (hB2.cell hs1 hne 2).trans q2
  replace f2 := (hB2.fz hs1 hne 2).trans f2
  replace q3 := (hB2.cell hs1 hne 3).trans q3
  replace f3 := (hB2.fz hs1 hne 3).trans f3
  replace q4 := (hB2.cell hs1 hne 4).trans q4
  replace f4 := (hB2.fz hs1 hne 4).trans f4
  have hs2 : w.heap.size < w2.heap.size := Nat.lt_of_lt_of_le hs1 hB2.size
  have hA2 := hA1.trans hB2 (fun _ _ h => h)
  clear hR1 hA1 hs1 hB2
  obtain ⟨n4, hn4⟩ : ∃ n, n = w2.heap.size := ⟨_, rfl⟩
  have hx := Row.new w2 #[.int .i64 1, .int .i64 (1 + k1), .int .i64 k2, .int .i64 9, .bool false] 101
  obtain ⟨x0, y0⟩ := hx.at0 (j := 0) rfl
  obtain ⟨x1, y1⟩ := hx.at0 (j := 1) rfl
  obtain ⟨x2, y2⟩ := hx.at0 (j := 2) rfl
  obtain ⟨x3, y3⟩ := hx.at0 (j := 3) rfl
  obtain ⟨x4, y4⟩ := hx.at0 (j := 4) rfl
  have hq2 : ∀ (i : Nat) u, w2.cell? ⟨w.heap.size, i, none⟩ = u → (w2.alloc (.cells #[.int .i64 1, .int .i64 (1 + k1), .int .i64 k2, .int .i64 9, .bool false] 101)).cell? ⟨w.heap.size, i, none⟩ = u := fun i u h => (((Below.refl w2.heap.size w2).alloc (Nat.le_refl _) _).cell (p := ⟨w.heap.size, i, none⟩) hs2).trans h
  have hf2 : ∀ (i : Nat) u, w2.frozen? ⟨w.heap.size, i, none⟩ = u → (w2.alloc (.cells #[.int .i64 1, .int .i64 (1 + k1), .int .i64 k2, .int .i64 9, .bool false] 101)).frozen? ⟨w.heap.size, i, none⟩ = u := fun i u h => (((Below.refl w2.heap.size w2).alloc (Nat.le_refl _) _).frozen (p := ⟨w.heap.size, i, none⟩) hs2).trans h
  replace q0 := hq2 0 _ q0
  replace f0 := hf2 0 _ f0
  replace q1 := hq2 1 _ q1
  replace f1 := hf2 1 _ f1
  replace q2 := hq2 2 _ q2
  replace f2 := hf2 2 _ f2
  replace q3 := hq2 3 _ q3
  replace f3 := hf2 3 _ f3
  replace q4 := hq2 4 _ q4
  replace f4 := hf2 4 _ f4
  have hs4' : w2.heap.size < (w2.alloc (.cells #[.int .i64 1, .int .i64 (1 + k1), .int .i64 k2, .int .i64 9, .bool false] 101)).heap.size := by simp
  have hs4'' : w.heap.size < (w2.alloc (.cells #[.int .i64 1, .int .i64 (1 + k1), .int .i64 k2, .int .i64 9, .bool false] 101)).heap.size := by simp; omega
  have hne4 : ¬ w2.heap.size = R := by omega
  have hAa : Agr (· = R) w (w2.alloc (.cells #[.int .i64 1, .int .i64 (1 + k1), .int .i64 k2, .int .i64 9, .bool false] 101)) := hA2.alloc _
  clear hx hq2 hf2
  go_wp2_with fail
  refine (spec_pickI 12 12 B R (m + 2) _ rfl (by omega) (by omega) (by omega) (hR2.alloc _)).mono ?_
  rintro e w3 ⟨k3, rfl, hk3, hR3, hB3⟩
  replace q0 := (hB3.cell hs4'' hne 0).trans q0
  replace f0 := (hB3.fz hs4'' hne 0).trans f0
  replace x0 := (hB3.cell hs4' hne4 0).trans x0
  replace y0 := (hB3.fz hs4' hne4 0).trans y0
  replace q1 := (hB3.cell hs4'' hne 1).trans q1
  replace f1 := (hB3.fz hs4'' hne 1).trans f1
  replace x1 := (hB3.cell hs4' hne4 1).trans x1
  replace y1 := (hB3.fz hs4' hne4 1).trans y1
  replace q2 := (hB3.cell hs4'' hne 2).trans q2
  replace f2 := (hB3.fz hs4'' hne 2).trans f2
  replace x2 := (hB3.cell hs4' hne4 2).trans x2
  replace y2 := (hB3.fz hs4' hne4 2).trans y2
  replace q3 := (hB3.cell hs4'' hne 3).trans q3
  replace f3 := (hB3.fz hs4'' hne 3).trans f3
  replace x3 := (hB3.cell hs4' hne4 3).trans x3
  replace y3 := (hB3.fz hs4' hne4 3).trans y3
  replace q4 := (hB3.cell hs4'' hne 4).trans q4
  replace f4 := (hB3.fz hs4'' hne 4).trans f4
  replace x4 := (hB3.cell hs4' hne4 4).trans x4
  replace y4 := (hB3.fz hs4' hne4 4).trans y4
  have hs3 : w2.heap.size < w3.heap.size := Nat.lt_of_lt_of_le hs4' hB3.size
  have hA3 := hAa.trans hB3 (fun _ _ h => h)
  have hs6 : w.heap.size < n4 := by omega
  rw [← hn4] at *
  have hs3' : w.heap.size < w3.heap.size := by omega
  clear hAa hB3 hA2 hR2 hs4' hs4'' hn4
  by_cases h0 : k3 < 3
  · have h01 : k3 = 0 ∨ k3 = 1 ∨ k3 = 2 := by omega
    clear h0
    rcases h01 with rfl | rfl | rfl
    · clear hk3
      go_wp2_with fail
      have hW := wrote_one x0 (.int .i64 2)
      have hRs : Rd (w3.setCell ⟨n4, 0, none⟩ (.int .i64 2)) B R (m + 3) := hR3.agr hW.agr (by omega) (fun b hb e => by have := hR3.le; omega)
      have hAs : Agr (· = R) w (w3.setCell ⟨n4, 0, none⟩ (.int .i64 2)) := hA3.setCell (.inl (by show w.heap.size ≤ n4; omega)) _
      have x0n : (w3.setCell ⟨n4, 0, none⟩ (.int .i64 2)).cell? ⟨n4, 0, none⟩ = some (.int .i64 2) := hW.new_ 0 _ rfl
      replace q0 := (hW.agr.cell (b := w.heap.size) (by omega) (by omega) 0).trans q0
      replace f0 := (hW.frozen ⟨w.heap.size, 0, none⟩).trans f0
      replace y0 := (hW.frozen ⟨n4, 0, none⟩).trans y0
      replace q1 := (hW.agr.cell (b := w.heap.size) (by omega) (by omega) 1).trans q1
      replace f1 := (hW.frozen ⟨w.heap.size, 1, none⟩).trans f1
      replace x1 := (hW.old_ 1 (by simp)).trans x1
      replace y1 := (hW.frozen ⟨n4, 1, none⟩).trans y1
      replace q2 := (hW.agr.cell (b := w.heap.size) (by omega) (by omega) 2).trans q2
      replace f2 := (hW.frozen ⟨w.heap.size, 2, none⟩).trans f2
      replace x2 := (hW.old_ 2 (by simp)).trans x2
      replace y2 := (hW.frozen ⟨n4, 2, none⟩).trans y2
      replace q3 := (hW.agr.cell (b := w.heap.size) (by omega) (by omega) 3).trans q3
      replace f3 := (hW.frozen ⟨w.heap.size, 3, none⟩).trans f3
      replace x3 := (hW.old_ 3 (by simp)).trans x3
      replace y3 := (hW.frozen ⟨n4, 3, none⟩).trans y3
      replace q4 := (hW.agr.cell (b := w.heap.size) (by omega) (by omega) 4).trans q4
      replace f4 := (hW.frozen ⟨w.heap.size, 4, none⟩).trans f4
      replace x4 := (hW.old_ 4 (by simp)).trans x4
      replace y4 := (hW.frozen ⟨n4, 4, none⟩).trans y4
      replace x0 := x0n
      have hsa : n4 < (w3.setCell ⟨n4, 0, none⟩ (.int .i64 2)).heap.size := by simpa using hs3
      have hsb : w.heap.size < (w3.setCell ⟨n4, 0, none⟩ (.int .i64 2)).heap.size := by simpa using hs3'
      clear hW x0n hR3 hA3
      refine (spec_pickI 4 4 B R (m + 3) _ rfl (by omega) (by omega) (by omega) hRs).mono ?_
      rintro e w5 ⟨k5, rfl, hk5, hR5, hB5⟩
      replace q0 := (hB5.cell hsb hne 0).trans q0
      replace f0 := (hB5.fz hsb hne 0).trans f0
      replace x0 := (hB5.cell hsa hne4 0).trans x0
      replace y0 := (hB5.fz hsa hne4 0).trans y0
      replace q1 := (hB5.cell hsb hne 1).trans q1
      replace f1 := (hB5.fz hsb hne 1).trans f1
      replace x1 := (hB5.cell hsa hne4 1).trans x1
      replace y1 := (hB5.fz hsa hne4 1).trans y1
      replace q2 := (hB5.cell hsb hne 2).trans q2
      replace f2 := (hB5.fz hsb hne 2).trans f2
      replace x2 := (hB5.cell hsa hne4 2).trans x2
      replace y2 := (hB5.fz hsa hne4 2).trans y2
      replace q3 := (hB5.cell hsb hne 3).trans q3
      replace f3 := (hB5.fz hsb hne 3).trans f3
      replace x3 := (hB5.cell hsa hne4 3).trans x3
      replace y3 := (hB5.fz hsa hne4 3).trans y3
      replace q4 := (hB5.cell hsb hne 4).trans q4
      replace f4 := (hB5.fz hsb hne 4).trans f4
      replace x4 := (hB5.cell hsa hne4 4).trans x4
      replace y4 := (hB5.fz hsa hne4 4).trans y4
      have hA5 := hAs.trans hB5 (fun _ _ h => h)
      have hs5 : n4 < w5.heap.size := Nat.lt_of_lt_of_le hsa hB5.size
      have hs5' : w.heap.size < w5.heap.size := by omega
      clear hB5 hAs hRs
      by_cases h5 : k5 = 0
      · have t5 : ((k5 : Int) == 0) = true := by subst h5; rfl
        clear h5
        go_wp2_with fail
        refine (spec_pickI 5 5 B R (m + 4) _ rfl (by omega) (by omega) (by omega) hR5).mono ?_
        rintro e w6 ⟨k6, rfl, hk6, hR6, hB6⟩
        replace q0 := (hB6.cell hs5' hne 0).trans q0
        replace f0 := (hB6.fz hs5' hne 0).trans f0
        replace x0 := (hB6.cell hs5 hne4 0).trans x0
        replace y0 := (hB6.fz hs5 hne4 0).trans y0
        replace q1 := (hB6.cell hs5' hne 1).trans q1
        replace f1 := (hB6.fz hs5' hne 1).trans f1
        replace x1 := (hB6.cell hs5 hne4 1).trans x1
        replace y1 := (hB6.fz hs5 hne4 1).trans y1
        replace q2 := (hB6.cell hs5' hne 2).trans q2
        replace f2 := (hB6.fz hs5' hne 2).trans f2
        replace x2 := (hB6.cell hs5 hne4 2).trans x2
        replace y2 := (hB6.fz hs5 hne4 2).trans y2
        replace q3 := (hB6.cell hs5' hne 3).trans q3
        replace f3 := (hB6.fz hs5' hne 3).trans f3
        replace x3 := (hB6.cell hs5 hne4 3).trans x3
        replace y3 := (hB6.fz hs5 hne4 3).trans y3
        replace q4 := (hB6.cell hs5' hne 4).trans q4
        replace f4 := (hB6.fz hs5' hne 4).trans f4
        replace x4 := (hB6.cell hs5 hne4 4).trans x4
        replace y4 := (hB6.fz hs5 hne4 4).trans y4
        have hA6 := hA5.trans hB6 (fun _ _ h => h)
        have hs6a : n4 < w6.heap.size := Nat.lt_of_lt_of_le hs5 hB6.size
        have hs6b : w.heap.size < w6.heap.size := by omega
        go_wp2_with fail
        have hW := wrote_one x3 (.int .i64 k6)
        have hR6s : Rd (w6.setCell ⟨n4, 3, none⟩ (.int .i64 k6)) B R (m + 5) := hR6.agr hW.agr (by omega) (fun b hb e => by have := hR6.le; omega)
        have hA6s : Agr (· = R) w (w6.setCell ⟨n4, 3, none⟩ (.int .i64 k6)) := hA6.setCell (.inl (by show w.heap.size ≤ n4; omega)) _
        have x3n : (w6.setCell ⟨n4, 3, none⟩ (.int .i64 k6)).cell? ⟨n4, 3, none⟩ = some (.int .i64 k6) := hW.new_ 0 _ rfl
        replace q0 := (hW.agr.cell (b := w.heap.size) (by omega) (by omega) 0).trans q0
        replace f0 := (hW.frozen ⟨w.heap.size, 0, none⟩).trans f0
        replace x0 := (hW.old_ 0 (by simp)).trans x0
        replace y0 := (hW.frozen ⟨n4, 0, none⟩).trans y0
        replace q1 := (hW.agr.cell (b := w.heap.size) (by omega) (by omega) 1).trans q1
        replace f1 := (hW.frozen ⟨w.heap.size, 1, none⟩).trans f1
        replace x1 := (hW.old_ 1 (by simp)).trans x1
        replace y1 := (hW.frozen ⟨n4, 1, none⟩).trans y1
        replace q2 := (hW.agr.cell (b := w.heap.size) (by omega) (by omega) 2).trans q2
        replace f2 := (hW.frozen ⟨w.heap.size, 2, none⟩).trans f2
        replace x2 := (hW.old_ 2 (by simp)).trans x2
        replace y2 := (hW.frozen ⟨n4, 2, none⟩).trans y2
        replace q3 := (hW.agr.cell (b := w.heap.size) (by omega) (by omega) 3).trans q3
        replace f3 := (hW.frozen ⟨w.heap.size, 3, none⟩).trans f3
        replace y3 := (hW.frozen ⟨n4, 3, none⟩).trans y3
        replace q4 := (hW.agr.cell (b := w.heap.size) (by omega) (by omega) 4).trans q4
        replace f4 := (hW.frozen ⟨w.heap.size, 4, none⟩).trans f4
        replace x4 := (hW.old_ 4 (by simp)).trans x4
        replace y4 := (hW.frozen ⟨n4, 4, none⟩).trans y4
        replace x3 := x3n
        have hs7 : n4 < (w6.setCell ⟨n4, 3, none⟩ (.int .i64 k6)).heap.size := by simpa using hs6a
        have hs7' : w.heap.size < (w6.setCell ⟨n4, 3, none⟩ (.int .i64 k6)).heap.size := by simpa using hs6b
        clear hW x3n hB6 hR6 hA6 hA5 hR5
        refine (spec_pickI 3 3 B R (m + 5) _ rfl (by omega) (by omega) (by omega) hR6s).mono ?_
        rintro e w7 ⟨k7, rfl, hk7, hR7, hB7⟩
        replace q0 := (hB7.cell hs7' hne 0).trans q0
        replace f0 := (hB7.fz hs7' hne 0).trans f0
        replace x0 := (hB7.cell hs7 hne4 0).trans x0
        replace y0 := (hB7.fz hs7 hne4 0).trans y0
        replace q1 := (hB7.cell hs7' hne 1).trans q1
        replace f1 := (hB7.fz hs7' hne 1).trans f1
        replace x1 := (hB7.cell hs7 hne4 1).trans x1
        replace y1 := (hB7.fz hs7 hne4 1).trans y1
        replace q2 := (hB7.cell hs7' hne 2).trans q2
        replace f2 := (hB7.fz hs7' hne 2).trans f2
        replace x2 := (hB7.cell hs7 hne4 2).trans x2
        replace y2 := (hB7.fz hs7 hne4 2).trans y2
        replace q3 := (hB7.cell hs7' hne 3).trans q3
        replace f3 := (hB7.fz hs7' hne 3).trans f3
        replace x3 := (hB7.cell hs7 hne4 3).trans x3
        replace y3 := (hB7.fz hs7 hne4 3).trans y3
        replace q4 := (hB7.cell hs7' hne 4).trans q4
        replace f4 := (hB7.fz hs7' hne 4).trans f4
        replace x4 := (hB7.cell hs7 hne4 4).trans x4
        replace y4 := (hB7.fz hs7 hne4 4).trans y4
        have hA7 := hA6s.trans hB7 (fun _ _ h => h)
        have hs7a : n4 < w7.heap.size := Nat.lt_of_lt_of_le hs7 hB7.size
        have hs7b : w.heap.size < w7.heap.size := by omega
        clear hB7 hR6s hA6s hs7 hs7'
        go_wp2
        refine bodyPost_ret (v := .agg #[.int .i64 (2), .int .i64 (1 + (k1 : Int)), .int .i64 ((k2 : Int)), .int .i64 ((k6 : Int)), .bool (decide ((0 : Int) < k7))]) (by simp [results, Try.results70, go_sem, q0, q1, q2, q3, q4]) rfl ⟨⟨2, 1 + (k1 : Int), (k2 : Int), (k6 : Int), decide ((0 : Int) < k7)⟩, rfl, ⟨⟨by dsimp only; omega, by dsimp only; omega⟩, ⟨by dsimp only; omega, by dsimp only; omega⟩, ⟨by dsimp only; omega, by dsimp only; omega⟩, ⟨by dsimp only; omega, by dsimp only; omega⟩⟩, ?_, ?_⟩
        · refine (Rd.high (L := w.heap.size) hR7 ?_ hRl).mono (by omega)
          repeat (with_reducible refine Agr.setCell ?_ (.inr (by first | exact Nat.le_refl _ | (show w.heap.size ≤ n4; omega))) _)
          with_reducible exact Agr.refl _ _
        · repeat (with_reducible refine Agr.setCell ?_ (.inl (by first | exact Nat.le_refl _ | (show w.heap.size ≤ n4; omega))) _)
          with_reducible exact hA7
      · have t5 : ((k5 : Int) == 0) = false := by rw [beq_eq_false_iff_ne]; omega
        clear h5
        go_wp2
        refine bodyPost_ret (v := .agg #[.int .i64 (2), .int .i64 (1 + (k1 : Int)), .int .i64 ((k2 : Int)), .int .i64 (9), .bool (false)]) (by simp [results, Try.results70, go_sem, q0, q1, q2, q3, q4]) rfl ⟨⟨2, 1 + (k1 : Int), (k2 : Int), 9, false⟩, rfl, ⟨⟨by dsimp only; omega, by dsimp only; omega⟩, ⟨by dsimp only; omega, by dsimp only; omega⟩, ⟨by dsimp only; omega, by dsimp only; omega⟩, ⟨by dsimp only; omega, by dsimp only; omega⟩⟩, ?_, ?_⟩
        · refine (Rd.high (L := w.heap.size) hR5 ?_ hRl).mono (by omega)
          repeat (with_reducible refine Agr.setCell ?_ (.inr (by first | exact Nat.le_refl _ | (show w.heap.size ≤ n4; omega))) _)
          with_reducible exact Agr.refl _ _
        · repeat (with_reducible refine Agr.setCell ?_ (.inl (by first | exact Nat.le_refl _ | (show w.heap.size ≤ n4; omega))) _)
          with_reducible exact hA5

    · clear hk3
      go_wp2_with fail
      have hW := wrote_one x0 (.int .i64 2)
      have hRs : Rd (w3.setCell ⟨n4, 0, none⟩ (.int .i64 2)) B R (m + 3) := hR3.agr hW.agr (by omega) (fun b hb e => by have := hR3.le; omega)
      have hAs : Agr (· = R) w (w3.setCell ⟨n4, 0, none⟩ (.int .i64 2)) := hA3.setCell (.inl (by show w.heap.size ≤ n4; omega)) _
      have x0n : (w3.setCell ⟨n4, 0, none⟩ (.int .i64 2)).cell? ⟨n4, 0, none⟩ = some (.int .i64 2) := hW.new_ 0 _ rfl
      replace q0 := (hW.agr.cell (b := w.heap.size) (by omega) (by omega) 0).trans q0
      replace f0 := (hW.frozen ⟨w.heap.size, 0, none⟩).trans f0
      replace y0 := (hW.frozen ⟨n4, 0, none⟩).trans y0
      replace q1 := (hW.agr.cell (b := w.heap.size) (by omega) (by omega) 1).trans q1
      replace f1 := (hW.frozen ⟨w.heap.size, 1, none⟩).trans f1
      replace x1 := (hW.old_ 1 (by simp)).trans x1
      replace y1 := (hW.frozen ⟨n4, 1, none⟩).trans y1
      replace q2 := (hW.agr.cell (b := w.heap.size) (by omega) (by omega) 2).trans q2
      replace f2 := (hW.frozen ⟨w.heap.size, 2, none⟩).trans f2
      replace x2 := (hW.old_ 2 (by simp)).trans x2
      replace y2 := (hW.frozen ⟨n4, 2, none⟩).trans y2
      replace q3 := (hW.agr.cell (b := w.heap.size) (by omega) (by omega) 3).trans q3
      replace f3 := (hW.frozen ⟨w.heap.size, 3, none⟩).trans f3
      replace x3 := (hW.old_ 3 (by simp)).trans x3
      replace y3 := (hW.frozen ⟨n4, 3, none⟩).trans y3
      replace q4 := (hW.agr.cell (b := w.heap.size) (by omega) (by omega) 4).trans q4
      replace f4 := (hW.frozen ⟨w.heap.size, 4, none⟩).trans f4
      replace x4 := (hW.old_ 4 (by simp)).trans x4
      replace y4 := (hW.frozen ⟨n4, 4, none⟩).trans y4
      replace x0 := x0n
      have hsa : n4 < (w3.setCell ⟨n4, 0, none⟩ (.int .i64 2)).heap.size := by simpa using hs3
      have hsb : w.heap.size < (w3.setCell ⟨n4, 0, none⟩ (.int .i64 2)).heap.size := by simpa using hs3'
      clear hW x0n hR3 hA3
      refine (spec_pickI 4 4 B R (m + 3) _ rfl (by omega) (by omega) (by omega) hRs).mono ?_
      rintro e w5 ⟨k5, rfl, hk5, hR5, hB5⟩
      replace q0 := (hB5.cell hsb hne 0).trans q0
      replace f0 := (hB5.fz hsb hne 0).trans f0
      replace x0 := (hB5.cell hsa hne4 0).trans x0
      replace y0 := (hB5.fz hsa hne4 0).trans y0
      replace q1 := (hB5.cell hsb hne 1).trans q1
      replace f1 := (hB5.fz hsb hne 1).trans f1
      replace x1 := (hB5.cell hsa hne4 1).trans x1
      replace y1 := (hB5.fz hsa hne4 1).trans y1
      replace q2 := (hB5.cell hsb hne 2).trans q2
      replace f2 := (hB5.fz hsb hne 2).trans f2
      replace x2 := (hB5.cell hsa hne4 2).trans x2
      replace y2 := (hB5.fz hsa hne4 2).trans y2
      replace q3 := (hB5.cell hsb hne 3).trans q3
      replace f3 := (hB5.fz hsb hne 3).trans f3
      replace x3 := (hB5.cell hsa hne4 3).trans x3
      replace y3 := (hB5.fz hsa hne4 3).trans y3
      replace q4 := (hB5.cell hsb hne 4).trans q4
      replace f4 := (hB5.fz hsb hne 4).trans f4
      replace x4 := (hB5.cell hsa hne4 4).trans x4
      replace y4 := (hB5.fz hsa hne4 4).trans y4
      have hA5 := hAs.trans hB5 (fun _ _ h => h)
      have hs5 : n4 < w5.heap.size := Nat.lt_of_lt_of_le hsa hB5.size
      have hs5' : w.heap.size < w5.heap.size := by omega
      clear hB5 hAs hRs
      by_cases h5 : k5 = 0
      · have t5 : ((k5 : Int) == 0) = true := by subst h5; rfl
        clear h5
        go_wp2_with fail
        refine (spec_pickI 5 5 B R (m + 4) _ rfl (by omega) (by omega) (by omega) hR5).mono ?_
        rintro e w6 ⟨k6, rfl, hk6, hR6, hB6⟩
        replace q0 := (hB6.cell hs5' hne 0).trans q0
        replace f0 := (hB6.fz hs5' hne 0).trans f0
        replace x0 := (hB6.cell hs5 hne4 0).trans x0
        replace y0 := (hB6.fz hs5 hne4 0).trans y0
        replace q1 := (hB6.cell hs5' hne 1).trans q1
        replace f1 := (hB6.fz hs5' hne 1).trans f1
        replace x1 := (hB6.cell hs5 hne4 1).trans x1
        replace y1 := (hB6.fz hs5 hne4 1).trans y1
        replace q2 := (hB6.cell hs5' hne 2).trans q2
        replace f2 := (hB6.fz hs5' hne 2).trans f2
        replace x2 := (hB6.cell hs5 hne4 2).trans x2
        replace y2 := (hB6.fz hs5 hne4 2).trans y2
        replace q3 := (hB6.cell hs5' hne 3).trans q3
        replace f3 := (hB6.fz hs5' hne 3).trans f3
        replace x3 := (hB6.cell hs5 hne4 3).trans x3
        replace y3 := (hB6.fz hs5 hne4 3).trans y3
        replace q4 := (hB6.cell hs5' hne 4).trans q4
        replace f4 := (hB6.fz hs5' hne 4).trans f4
        replace x4 := (hB6.cell hs5 hne4 4).trans x4
        replace y4 := (hB6.fz hs5 hne4 4).trans y4
        have hA6 := hA5.trans hB6 (fun _ _ h => h)
        have hs6a : n4 < w6.heap.size := Nat.lt_of_lt_of_le hs5 hB6.size
        have hs6b : w.heap.size < w6.heap.size := by omega
        go_wp2_with fail
        have hW := wrote_one x3 (.int .i64 k6)
        have hR6s : Rd (w6.setCell ⟨n4, 3, none⟩ (.int .i64 k6)) B R (m + 5) := hR6.agr hW.agr (by omega) (fun b hb e => by have := hR6.le; omega)
        have hA6s : Agr (· = R) w (w6.setCell ⟨n4, 3, none⟩ (.int .i64 k6)) := hA6.setCell (.inl (by show w.heap.size ≤ n4; omega)) _
        have x3n : (w6.setCell ⟨n4, 3, none⟩ (.int .i64 k6)).cell? ⟨n4, 3, none⟩ = some (.int .i64 k6) := hW.new_ 0 _ rfl
        replace q0 := (hW.agr.cell (b := w.heap.size) (by omega) (by omega) 0).trans q0
        replace f0 := (hW.frozen ⟨w.heap.size, 0, none⟩).trans f0
        replace x0 := (hW.old_ 0 (by simp)).trans x0
        replace y0 := (hW.frozen ⟨n4, 0, none⟩).trans y0
        replace q1 := (hW.agr.cell (b := w.heap.size) (by omega) (by omega) 1).trans q1
        replace f1 := (hW.frozen ⟨w.heap.size, 1, none⟩).trans f1
        replace x1 := (hW.old_ 1 (by simp)).trans x1
        replace y1 := (hW.frozen ⟨n4, 1, none⟩).trans y1
        replace q2 := (hW.agr.cell (b := w.heap.size) (by omega) (by omega) 2).trans q2
        replace f2 := (hW.frozen ⟨w.heap.size, 2, none⟩).trans f2
        replace x2 := (hW.old_ 2 (by simp)).trans x2
        replace y2 := (hW.frozen ⟨n4, 2, none⟩).trans y2
        replace q3 := (hW.agr.cell (b := w.heap.size) (by omega) (by omega) 3).trans q3
        replace f3 := (hW.frozen ⟨w.heap.size, 3, none⟩).trans f3
        replace y3 := (hW.frozen ⟨n4, 3, none⟩).trans y3
        replace q4 := (hW.agr.cell (b := w.heap.size) (by omega) (by omega) 4).trans q4
        replace f4 := (hW.frozen ⟨w.heap.size, 4, none⟩).trans f4
        replace x4 := (hW.old_ 4 (by simp)).trans x4
        replace y4 := (hW.frozen ⟨n4, 4, none⟩).trans y4
        replace x3 := x3n
        have hs7 : n4 < (w6.setCell ⟨n4, 3, none⟩ (.int .i64 k6)).heap.size := by simpa using hs6a
        have hs7' : w.heap.size < (w6.setCell ⟨n4, 3, none⟩ (.int .i64 k6)).heap.size := by simpa using hs6b
        clear hW x3n hB6 hR6 hA6 hA5 hR5
        refine (spec_pickI 3 3 B R (m + 5) _ rfl (by omega) (by omega) (by omega) hR6s).mono ?_
        rintro e w7 ⟨k7, rfl, hk7, hR7, hB7⟩
        replace q0 := (hB7.cell hs7' hne 0).trans q0
        replace f0 := (hB7.fz hs7' hne 0).trans f0
        replace x0 := (hB7.cell hs7 hne4 0).trans x0
        replace y0 := (hB7.fz hs7 hne4 0).trans y0
        replace q1 := (hB7.cell hs7' hne 1).trans q1
        replace f1 := (hB7.fz hs7' hne 1).trans f1
        replace x1 := (hB7.cell hs7 hne4 1).trans x1
        replace y1 := (hB7.fz hs7 hne4 1).trans y1
        replace q2 := (hB7.cell hs7' hne 2).trans q2
        replace f2 := (hB7.fz hs7' hne 2).trans f2
        replace x2 := (hB7.cell hs7 hne4 2).trans x2
        replace y2 := (hB7.fz hs7 hne4 2).trans y2
        replace q3 := (hB7.cell hs7' hne 3).trans q3
        replace f3 := (hB7.fz hs7' hne 3).trans f3
        replace x3 := (hB7.cell hs7 hne4 3).trans x3
        replace y3 := (hB7.fz hs7 hne4 3).trans y3
        replace q4 := (hB7.cell hs7' hne 4).trans q4
        replace f4 := (hB7.fz hs7' hne 4).trans f4
        replace x4 := (hB7.cell hs7 hne4 4).trans x4
        replace y4 := (hB7.fz hs7 hne4 4).trans y4
        have hA7 := hA6s.trans hB7 (fun _ _ h => h)
        have hs7a : n4 < w7.heap.size := Nat.lt_of_lt_of_le hs7 hB7.size
        have hs7b : w.heap.size < w7.heap.size := by omega
        clear hB7 hR6s hA6s hs7 hs7'
        go_wp2
        refine bodyPost_ret (v := .agg #[.int .i64 (2), .int .i64 (1 + (k1 : Int)), .int .i64 ((k2 : Int)), .int .i64 ((k6 : Int)), .bool (decide ((0 : Int) < k7))]) (by simp [results, Try.results70, go_sem, q0, q1, q2, q3, q4]) rfl ⟨⟨2, 1 + (k1 : Int), (k2 : Int), (k6 : Int), decide ((0 : Int) < k7)⟩, rfl, ⟨⟨by dsimp only; omega, by dsimp only; omega⟩, ⟨by dsimp only; omega, by dsimp only; omega⟩, ⟨by dsimp only; omega, by dsimp only; omega⟩, ⟨by dsimp only; omega, by dsimp only; omega⟩⟩, ?_, ?_⟩
        · refine (Rd.high (L := w.heap.size) hR7 ?_ hRl).mono (by omega)
          repeat (with_reducible refine Agr.setCell ?_ (.inr (by first | exact Nat.le_refl _ | (show w.heap.size ≤ n4; omega))) _)
          with_reducible exact Agr.refl _ _
        · repeat (with_reducible refine Agr.setCell ?_ (.inl (by first | exact Nat.le_refl _ | (show w.heap.size ≤ n4; omega))) _)
          with_reducible exact hA7
      · have t5 : ((k5 : Int) == 0) = false := by rw [beq_eq_false_iff_ne]; omega
        clear h5
        go_wp2
        refine bodyPost_ret (v := .agg #[.int .i64 (2), .int .i64 (1 + (k1 : Int)), .int .i64 ((k2 : Int)), .int .i64 (9), .bool (false)]) (by simp [results, Try.results70, go_sem, q0, q1, q2, q3, q4]) rfl ⟨⟨2, 1 + (k1 : Int), (k2 : Int), 9, false⟩, rfl, ⟨⟨by dsimp only; omega, by dsimp only; omega⟩, ⟨by dsimp only; omega, by dsimp only; omega⟩, ⟨by dsimp only; omega, by dsimp only; omega⟩, ⟨by dsimp only; omega, by dsimp only; omega⟩⟩, ?_, ?_⟩
        · refine (Rd.high (L := w.heap.size) hR5 ?_ hRl).mono (by omega)
          repeat (with_reducible refine Agr.setCell ?_ (.inr (by first | exact Nat.le_refl _ | (show w.heap.size ≤ n4; omega))) _)
          with_reducible exact Agr.refl _ _
        · repeat (with_reducible refine Agr.setCell ?_ (.inl (by first | exact Nat.le_refl _ | (show w.heap.size ≤ n4; omega))) _)
          with_reducible exact hA5

    · clear hk3
      go_wp2_with fail
      have hW := wrote_one x0 (.int .i64 2)
      have hRs : Rd (w3.setCell ⟨n4, 0, none⟩ (.int .i64 2)) B R (m + 3) := hR3.agr hW.agr (by omega) (fun b hb e => by have := hR3.le; omega)
      have hAs : Agr (· = R) w (w3.setCell ⟨n4, 0, none⟩ (.int .i64 2)) := hA3.setCell (.inl (by show w.heap.size ≤ n4; omega)) _
      have x0n : (w3.setCell ⟨n4, 0, none⟩ (.int .i64 2)).cell? ⟨n4, 0, none⟩ = some (.int .i64 2) := hW.new_ 0 _ rfl
      replace q0 := (hW.agr.cell (b := w.heap.size) (by omega) (by omega) 0).trans q0
      replace f0 := (hW.frozen ⟨w.heap.size, 0, none⟩).trans f0
      replace y0 := (hW.frozen ⟨n4, 0, none⟩).trans y0
      replace q1 := (hW.agr.cell (b := w.heap.size) (by omega) (by omega) 1).trans q1
      replace f1 := (hW.frozen ⟨w.heap.size, 1, none⟩).trans f1
      replace x1 := (hW.old_ 1 (by simp)).trans x1
      replace y1 := (hW.frozen ⟨n4, 1, none⟩).trans y1
      replace q2 := (hW.agr.cell (b := w.heap.size) (by omega) (by omega) 2).trans q2
      replace f2 := (hW.frozen ⟨w.heap.size, 2, none⟩).trans f2
      replace x2 := (hW.old_ 2 (by simp)).trans x2
      replace y2 := (hW.frozen ⟨n4, 2, none⟩).trans y2
      replace q3 := (hW.agr.cell (b := w.heap.size) (by omega) (by omega) 3).trans q3
      replace f3 := (hW.frozen ⟨w.heap.size, 3, none⟩).trans f3
      replace x3 := (hW.old_ 3 (by simp)).trans x3
      replace y3 := (hW.frozen ⟨n4, 3, none⟩).trans y3
      replace q4 := (hW.agr.cell (b := w.heap.size) (by omega) (by omega) 4).trans q4
      replace f4 := (hW.frozen ⟨w.heap.size, 4, none⟩).trans f4
      replace x4 := (hW.old_ 4 (by simp)).trans x4
      replace y4 := (hW.frozen ⟨n4, 4, none⟩).trans y4
      replace x0 := x0n
      have hsa : n4 < (w3.setCell ⟨n4, 0, none⟩ (.int .i64 2)).heap.size := by simpa using hs3
      have hsb : w.heap.size < (w3.setCell ⟨n4, 0, none⟩ (.int .i64 2)).heap.size := by simpa using hs3'
      clear hW x0n hR3 hA3
      refine (spec_pickI 4 4 B R (m + 3) _ rfl (by omega) (by omega) (by omega) hRs).mono ?_
      rintro e w5 ⟨k5, rfl, hk5, hR5, hB5⟩
      replace q0 := (hB5.cell hsb hne 0).trans q0
      replace f0 := (hB5.fz hsb hne 0).trans f0
      replace x0 := (hB5.cell hsa hne4 0).trans x0
      replace y0 := (hB5.fz hsa hne4 0).trans y0
      replace q1 := (hB5.cell hsb hne 1).trans q1
      replace f1 := (hB5.fz hsb hne 1).trans f1
      replace x1 := (hB5.cell hsa hne4 1).trans x1
      replace y1 := (hB5.fz hsa hne4 1).trans y1
      replace q2 := (hB5.cell hsb hne 2).trans q2
      replace f2 := (hB5.fz hsb hne 2).trans f2
      replace x2 := (hB5.cell hsa hne4 2).trans x2
      replace y2 := (hB5.fz hsa hne4 2).trans y2
      replace q3 := (hB5.cell hsb hne 3).trans q3
      replace f3 := (hB5.fz hsb hne 3).trans f3
      replace x3 := (hB5.cell hsa hne4 3).trans x3
      replace y3 := (hB5.fz hsa hne4 3).trans y3
      replace q4 := (hB5.cell hsb hne 4).trans q4
      replace f4 := (hB5.fz hsb hne 4).trans f4
      replace x4 := (hB5.cell hsa hne4 4).trans x4
      replace y4 := (hB5.fz hsa hne4 4).trans y4
      have hA5 := hAs.trans hB5 (fun _ _ h => h)
      have hs5 : n4 < w5.heap.size := Nat.lt_of_lt_of_le hsa hB5.size
      have hs5' : w.heap.size < w5.heap.size := by omega
      clear hB5 hAs hRs
      by_cases h5 : k5 = 0
      · have t5 : ((k5 : Int) == 0) = true := by subst h5; rfl
        clear h5
        go_wp2_with fail
        refine (spec_pickI 5 5 B R (m + 4) _ rfl (by omega) (by omega) (by omega) hR5).mono ?_
        rintro e w6 ⟨k6, rfl, hk6, hR6, hB6⟩
        replace q0 := (hB6.cell hs5' hne 0).trans q0
        replace f0 := (hB6.fz hs5' hne 0).trans f0
        replace x0 := (hB6.cell hs5 hne4 0).trans x0
        replace y0 := (hB6.fz hs5 hne4 0).trans y0
        replace q1 := (hB6.cell hs5' hne 1).trans q1
        replace f1 := (hB6.fz hs5' hne 1).trans f1
        replace x1 := (hB6.cell hs5 hne4 1).trans x1
        replace y1 := (hB6.fz hs5 hne4 1).trans y1
        replace q2 := (hB6.cell hs5' hne 2).trans q2
        replace f2 := (hB6.fz hs5' hne 2).trans f2
        replace x2 := (hB6.cell hs5 hne4 2).trans x2
        replace y2 := (hB6.fz hs5 hne4 2).trans y2
        replace q3 := (hB6.cell hs5' hne 3).trans q3
        replace f3 := (hB6.fz hs5' hne 3).trans f3
        replace x3 := (hB6.cell hs5 hne4 3).trans x3
        replace y3 := (hB6.fz hs5 hne4 3).trans y3
        replace q4 := (hB6.cell hs5' hne 4).trans q4
        replace f4 := (hB6.fz hs5' hne 4).trans f4
        replace x4 := (hB6.cell hs5 hne4 4).trans x4
        replace y4 := (hB6.fz hs5 hne4 4).trans y4
        have hA6 := hA5.trans hB6 (fun _ _ h => h)
        have hs6a : n4 < w6.heap.size := Nat.lt_of_lt_of_le hs5 hB6.size
        have hs6b : w.heap.size < w6.heap.size := by omega
        go_wp2_with fail
        have hW := wrote_one x3 (.int .i64 k6)
        have hR6s : Rd (w6.setCell ⟨n4, 3, none⟩ (.int .i64 k6)) B R (m + 5) := hR6.agr hW.agr (by omega) (fun b hb e => by have := hR6.le; omega)
        have hA6s : Agr (· = R) w (w6.setCell ⟨n4, 3, none⟩ (.int .i64 k6)) := hA6.setCell (.inl (by show w.heap.size ≤ n4; omega)) _
        have x3n : (w6.setCell ⟨n4, 3, none⟩ (.int .i64 k6)).cell? ⟨n4, 3, none⟩ = some (.int .i64 k6) := hW.new_ 0 _ rfl
        replace q0 := (hW.agr.cell (b := w.heap.size) (by omega) (by omega) 0).trans q0
        replace f0 := (hW.frozen ⟨w.heap.size, 0, none⟩).trans f0
        replace x0 := (hW.old_ 0 (by simp)).trans x0
        replace y0 := (hW.frozen ⟨n4, 0, none⟩).trans y0
        replace q1 := (hW.agr.cell (b := w.heap.size) (by omega) (by omega) 1).trans q1
        replace f1 := (hW.frozen ⟨w.heap.size, 1, none⟩).trans f1
        replace x1 := (hW.old_ 1 (by simp)).trans x1
        replace y1 := (hW.frozen ⟨n4, 1, none⟩).trans y1
        replace q2 := (hW.agr.cell (b := w.heap.size) (by omega) (by omega) 2).trans q2
        replace f2 := (hW.frozen ⟨w.heap.size, 2, none⟩).trans f2
        replace x2 := (hW.old_ 2 (by simp)).trans x2
        replace y2 := (hW.frozen ⟨n4, 2, none⟩).trans y2
        replace q3 := (hW.agr.cell (b := w.heap.size) (by omega) (by omega) 3).trans q3
        replace f3 := (hW.frozen ⟨w.heap.size, 3, none⟩).trans f3
        replace y3 := (hW.frozen ⟨n4, 3, none⟩).trans y3
        replace q4 := (hW.agr.cell (b := w.heap.size) (by omega) (by omega) 4).trans q4
        replace f4 := (hW.frozen ⟨w.heap.size, 4, none⟩).trans f4
        replace x4 := (hW.old_ 4 (by simp)).trans x4
        replace y4 := (hW.frozen ⟨n4, 4, none⟩).trans y4
        replace x3 := x3n
        have hs7 : n4 < (w6.setCell ⟨n4, 3, none⟩ (.int .i64 k6)).heap.size := by simpa using hs6a
        have hs7' : w.heap.size < (w6.setCell ⟨n4, 3, none⟩ (.int .i64 k6)).heap.size := by simpa using hs6b
        clear hW x3n hB6 hR6 hA6 hA5 hR5
        refine (spec_pickI 3 3 B R (m + 5) _ rfl (by omega) (by omega) (by omega) hR6s).mono ?_
        rintro e w7 ⟨k7, rfl, hk7, hR7, hB7⟩
        replace q0 := (hB7.cell hs7' hne 0).trans q0
        replace f0 := (hB7.fz hs7' hne 0).trans f0
        replace x0 := (hB7.cell hs7 hne4 0).trans x0
        replace y0 := (hB7.fz hs7 hne4 0).trans y0
        replace q1 := (hB7.cell hs7' hne 1).trans q1
        replace f1 := (hB7.fz hs7' hne 1).trans f1
        replace x1 := (hB7.cell hs7 hne4 1).trans x1
        replace y1 := (hB7.fz hs7 hne4 1).trans y1
        replace q2 := (hB7.cell hs7' hne 2).trans q2
        replace f2 := (hB7.fz hs7' hne 2).trans f2
        replace x2 := (hB7.cell hs7 hne4 2).trans x2
        replace y2 := (hB7.fz hs7 hne4 2).trans y2
        replace q3 := (hB7.cell hs7' hne 3).trans q3
        replace f3 := (hB7.fz hs7' hne 3).trans f3
        replace x3 := (hB7.cell hs7 hne4 3).trans x3
        replace y3 := (hB7.fz hs7 hne4 3).trans y3
        replace q4 := (hB7.cell hs7' hne 4).trans q4
        replace f4 := (hB7.fz hs7' hne 4).trans f4
        replace x4 := (hB7.cell hs7 hne4 4).trans x4
        replace y4 := (hB7.fz hs7 hne4 4).trans y4
        have hA7 := hA6s.trans hB7 (fun _ _ h => h)
        have hs7a : n4 < w7.heap.size := Nat.lt_of_lt_of_le hs7 hB7.size
        have hs7b : w.heap.size < w7.heap.size := by omega
        clear hB7 hR6s hA6s hs7 hs7'
        go_wp2
        refine bodyPost_ret (v := .agg #[.int .i64 (2), .int .i64 (1 + (k1 : Int)), .int .i64 ((k2 : Int)), .int .i64 ((k6 : Int)), .bool (decide ((0 : Int) < k7))]) (by simp [results, Try.results70, go_sem, q0, q1, q2, q3, q4]) rfl ⟨⟨2, 1 + (k1 : Int), (k2 : Int), (k6 : Int), decide ((0 : Int) < k7)⟩, rfl, ⟨⟨by dsimp only; omega, by dsimp only; omega⟩, ⟨by dsimp only; omega, by dsimp only; omega⟩, ⟨by dsimp only; omega, by dsimp only; omega⟩, ⟨by dsimp only; omega, by dsimp only; omega⟩⟩, ?_, ?_⟩
        · refine (Rd.high (L := w.heap.size) hR7 ?_ hRl).mono (by omega)
          repeat (with_reducible refine Agr.setCell ?_ (.inr (by first | exact Nat.le_refl _ | (show w.heap.size ≤ n4; omega))) _)
          with_reducible exact Agr.refl _ _
        · repeat (with_reducible refine Agr.setCell ?_ (.inl (by first | exact Nat.le_refl _ | (show w.heap.size ≤ n4; omega))) _)
          with_reducible exact hA7
      · have t5 : ((k5 : Int) == 0) = false := by rw [beq_eq_false_iff_ne]; omega
        clear h5
        go_wp2
        refine bodyPost_ret (v := .agg #[.int .i64 (2), .int .i64 (1 + (k1 : Int)), .int .i64 ((k2 : Int)), .int .i64 (9), .bool (false)]) (by simp [results, Try.results70, go_sem, q0, q1, q2, q3, q4]) rfl ⟨⟨2, 1 + (k1 : Int), (k2 : Int), 9, false⟩, rfl, ⟨⟨by dsimp only; omega, by dsimp only; omega⟩, ⟨by dsimp only; omega, by dsimp only; omega⟩, ⟨by dsimp only; omega, by dsimp only; omega⟩, ⟨by dsimp only; omega, by dsimp only; omega⟩⟩, ?_, ?_⟩
        · refine (Rd.high (L := w.heap.size) hR5 ?_ hRl).mono (by omega)
          repeat (with_reducible refine Agr.setCell ?_ (.inr (by first | exact Nat.le_refl _ | (show w.heap.size ≤ n4; omega))) _)
          with_reducible exact Agr.refl _ _
        · repeat (with_reducible refine Agr.setCell ?_ (.inl (by first | exact Nat.le_refl _ | (show w.heap.size ≤ n4; omega))) _)
          with_reducible exact hA5

  · have u0 : ((k3 : Int) == 0) = false := by rw [beq_eq_false_iff_ne]; omega
    have u1 : ((k3 : Int) == 1) = false := by rw [beq_eq_false_iff_ne]; omega
    have u2 : ((k3 : Int) == 2) = false := by rw [beq_eq_false_iff_ne]; omega
    by_cases h3 : k3 = 3
    · have u3 : ((k3 : Int) == 3) = true := by rw [beq_iff_eq]; omega
      clear h0 h3
      go_wp2_with fail
      have hW := wrote_one x0 (.int .i64 3)
      have hRs : Rd (w3.setCell ⟨n4, 0, none⟩ (.int .i64 3)) B R (m + 3) := hR3.agr hW.agr (by omega) (fun b hb e => by have := hR3.le; omega)
      have hAs : Agr (· = R) w (w3.setCell ⟨n4, 0, none⟩ (.int .i64 3)) := hA3.setCell (.inl (by show w.heap.size ≤ n4; omega)) _
      have x0n : (w3.setCell ⟨n4, 0, none⟩ (.int .i64 3)).cell? ⟨n4, 0, none⟩ = some (.int .i64 3) := hW.new_ 0 _ rfl
      replace q0 := (hW.agr.cell (b := w.heap.size) (by omega) (by omega) 0).trans q0
      replace f0 := (hW.frozen ⟨w.heap.size, 0, none⟩).trans f0
      replace y0 := (hW.frozen ⟨n4, 0, none⟩).trans y0
      replace q1 := (hW.agr.cell (b := w.heap.size) (by omega) (by omega) 1).trans q1
      replace f1 := (hW.frozen ⟨w.heap.size, 1, none⟩).trans f1
      replace x1 := (hW.old_ 1 (by simp)).trans x1
      replace y1 := (hW.frozen ⟨n4, 1, none⟩).trans y1
      replace q2 := (hW.agr.cell (b := w.heap.size) (by omega) (by omega) 2).trans q2
      replace f2 := (hW.frozen ⟨w.heap.size, 2, none⟩).trans f2
      replace x2 := (hW.old_ 2 (by simp)).trans x2
      replace y2 := (hW.frozen ⟨n4, 2, none⟩).trans y2
      replace q3 := (hW.agr.cell (b := w.heap.size) (by omega) (by omega) 3).trans q3
      replace f3 := (hW.frozen ⟨w.heap.size, 3, none⟩).trans f3
      replace x3 := (hW.old_ 3 (by simp)).trans x3
      replace y3 := (hW.frozen ⟨n4, 3, none⟩).trans y3
      replace q4 := (hW.agr.cell (b := w.heap.size) (by omega) (by omega) 4).trans q4
      replace f4 := (hW.frozen ⟨w.heap.size, 4, none⟩).trans f4
      replace x4 := (hW.old_ 4 (by simp)).trans x4
      replace y4 := (hW.frozen ⟨n4, 4, none⟩).trans y4
      replace x0 := x0n
      have hsa : n4 < (w3.setCell ⟨n4, 0, none⟩ (.int .i64 3)).heap.size := by simpa using hs3
      have hsb : w.heap.size < (w3.setCell ⟨n4, 0, none⟩ (.int .i64 3)).heap.size := by simpa using hs3'
      clear hW x0n hR3 hA3
      refine (spec_pickI 4 4 B R (m + 3) _ rfl (by omega) (by omega) (by omega) hRs).mono ?_
      rintro e w5 ⟨k5, rfl, hk5, hR5, hB5⟩
      replace q0 := (hB5.cell hsb hne 0).trans q0
      replace f0 := (hB5.fz hsb hne 0).trans f0
      replace x0 := (hB5.cell hsa hne4 0).trans x0
      replace y0 := (hB5.fz hsa hne4 0).trans y0
      replace q1 := (hB5.cell hsb hne 1).trans q1
      replace f1 := (hB5.fz hsb hne 1).trans f1
      replace x1 := (hB5.cell hsa hne4 1).trans x1
      replace y1 := (hB5.fz hsa hne4 1).trans y1
      replace q2 := (hB5.cell hsb hne 2).trans q2
      replace f2 := (hB5.fz hsb hne 2).trans f2
      replace x2 := (hB5.cell hsa hne4 2).trans x2
      replace y2 := (hB5.fz hsa hne4 2).trans y2
      replace q3 := (hB5.cell hsb hne 3).trans q3
      replace f3 := (hB5.fz hsb hne 3).trans f3
      replace x3 := (hB5.cell hsa hne4 3).trans x3
      replace y3 := (hB5.fz hsa hne4 3).trans y3
      replace q4 := (hB5.cell hsb hne 4).trans q4
      replace f4 := (hB5.fz hsb hne 4).trans f4
      replace x4 := (hB5.cell hsa hne4 4).trans x4
      replace y4 := (hB5.fz hsa hne4 4).trans y4
      have hA5 := hAs.trans hB5 (fun _ _ h => h)
      have hs5 : n4 < w5.heap.size := Nat.lt_of_lt_of_le hsa hB5.size
      have hs5' : w.heap.size < w5.heap.size := by omega
      clear hB5 hAs hRs
      by_cases h5 : k5 = 0
      · have t5 : ((k5 : Int) == 0) = true := by subst h5; rfl
        clear h5
        go_wp2_with fail
        refine (spec_pickI 5 5 B R (m + 4) _ rfl (by omega) (by omega) (by omega) hR5).mono ?_
        rintro e w6 ⟨k6, rfl, hk6, hR6, hB6⟩
        replace q0 := (hB6.cell hs5' hne 0).trans q0
        replace f0 := (hB6.fz hs5' hne 0).trans f0
        replace x0 := (hB6.cell hs5 hne4 0).trans x0
        replace y0 := (hB6.fz hs5 hne4 0).trans y0
        replace q1 := (hB6.cell hs5' hne 1).trans q1
        replace f1 := (hB6.fz hs5' hne 1).trans f1
        replace x1 := (hB6.cell hs5 hne4 1).trans x1
        replace y1 := (hB6.fz hs5 hne4 1).trans y1
        replace q2 := (hB6.cell hs5' hne 2).trans q2
        replace f2 := (hB6.fz hs5' hne 2).trans f2
        replace x2 := (hB6.cell hs5 hne4 2).trans x2
        replace y2 := (hB6.fz hs5 hne4 2).trans y2
        replace q3 := (hB6.cell hs5' hne 3).trans q3
        replace f3 := (hB6.fz hs5' hne 3).trans f3
        replace x3 := (hB6.cell hs5 hne4 3).trans x3
        replace y3 := (hB6.fz hs5 hne4 3).trans y3
        replace q4 := (hB6.cell hs5' hne 4).trans q4
        replace f4 := (hB6.fz hs5' hne 4).trans f4
        replace x4 := (hB6.cell hs5 hne4 4).trans x4
        replace y4 := (hB6.fz hs5 hne4 4).trans y4
        have hA6 := hA5.trans hB6 (fun _ _ h => h)
        have hs6a : n4 < w6.heap.size := Nat.lt_of_lt_of_le hs5 hB6.size
        have hs6b : w.heap.size < w6.heap.size := by omega
        go_wp2_with fail
        have hW := wrote_one x3 (.int .i64 k6)
        have hR6s : Rd (w6.setCell ⟨n4, 3, none⟩ (.int .i64 k6)) B R (m + 5) := hR6.agr hW.agr (by omega) (fun b hb e => by have := hR6.le; omega)
        have hA6s : Agr (· = R) w (w6.setCell ⟨n4, 3, none⟩ (.int .i64 k6)) := hA6.setCell (.inl (by show w.heap.size ≤ n4; omega)) _
        have x3n : (w6.setCell ⟨n4, 3, none⟩ (.int .i64 k6)).cell? ⟨n4, 3, none⟩ = some (.int .i64 k6) := hW.new_ 0 _ rfl
        replace q0 := (hW.agr.cell (b := w.heap.size) (by omega) (by omega) 0).trans q0
        replace f0 := (hW.frozen ⟨w.heap.size, 0, none⟩).trans f0
        replace x0 := (hW.old_ 0 (by simp)).trans x0
        replace y0 := (hW.frozen ⟨n4, 0, none⟩).trans y0
        replace q1 := (hW.agr.cell (b := w.heap.size) (by omega) (by omega) 1).trans q1
        replace f1 := (hW.frozen ⟨w.heap.size, 1, none⟩).trans f1
        replace x1 := (hW.old_ 1 (by simp)).trans x1
        replace y1 := (hW.frozen ⟨n4, 1, none⟩).trans y1
        replace q2 := (hW.agr.cell (b := w.heap.size) (by omega) (by omega) 2).trans q2
        replace f2 := (hW.frozen ⟨w.heap.size, 2, none⟩).trans f2
        replace x2 := (hW.old_ 2 (by simp)).trans x2
        replace y2 := (hW.frozen ⟨n4, 2, none⟩).trans y2
        replace q3 := (hW.agr.cell (b := w.heap.size) (by omega) (by omega) 3).trans q3
        replace f3 := (hW.frozen ⟨w.heap.size, 3, none⟩).trans f3
        replace y3 := (hW.frozen ⟨n4, 3, none⟩).trans y3
        replace q4 := (hW.agr.cell (b := w.heap.size) (by omega) (by omega) 4).trans q4
        replace f4 := (hW.frozen ⟨w.heap.size, 4, none⟩).trans f4
        replace x4 := (hW.old_ 4 (by simp)).trans x4
        replace y4 := (hW.frozen ⟨n4, 4, none⟩).trans y4
        replace x3 := x3n
        have hs7 : n4 < (w6.setCell ⟨n4, 3, none⟩ (.int .i64 k6)).heap.size := by simpa using hs6a
        have hs7' : w.heap.size < (w6.setCell ⟨n4, 3, none⟩ (.int .i64 k6)).heap.size := by simpa using hs6b
        clear hW x3n hB6 hR6 hA6 hA5 hR5
        refine (spec_pickI 3 3 B R (m + 5) _ rfl (by omega) (by omega) (by omega) hR6s).mono ?_
        rintro e w7 ⟨k7, rfl, hk7, hR7, hB7⟩
        replace q0 := (hB7.cell hs7' hne 0).trans q0
        replace f0 := (hB7.fz hs7' hne 0).trans f0
        replace x0 := (hB7.cell hs7 hne4 0).trans x0
        replace y0 := (hB7.fz hs7 hne4 0).trans y0
        replace q1 := (hB7.cell hs7' hne 1).trans q1
        replace f1 := (hB7.fz hs7' hne 1).trans f1
        replace x1 := (hB7.cell hs7 hne4 1).trans x1
        replace y1 := (hB7.fz hs7 hne4 1).trans y1
        replace q2 := (hB7.cell hs7' hne 2).trans q2
        replace f2 := (hB7.fz hs7' hne 2).trans f2
        replace x2 := (hB7.cell hs7 hne4 2).trans x2
        replace y2 := (hB7.fz hs7 hne4 2).trans y2
        replace q3 := (hB7.cell hs7' hne 3).trans q3
        replace f3 := (hB7.fz hs7' hne 3).trans f3
        replace x3 := (hB7.cell hs7 hne4 3).trans x3
        replace y3 := (hB7.fz hs7 hne4 3).trans y3
        replace q4 := (hB7.cell hs7' hne 4).trans q4
        replace f4 := (hB7.fz hs7' hne 4).trans f4
        replace x4 := (hB7.cell hs7 hne4 4).trans x4
        replace y4 := (hB7.fz hs7 hne4 4).trans y4
        have hA7 := hA6s.trans hB7 (fun _ _ h => h)
        have hs7a : n4 < w7.heap.size := Nat.lt_of_lt_of_le hs7 hB7.size
        have hs7b : w.heap.size < w7.heap.size := by omega
        clear hB7 hR6s hA6s hs7 hs7'
        go_wp2
        refine bodyPost_ret (v := .agg #[.int .i64 (3), .int .i64 (1 + (k1 : Int)), .int .i64 ((k2 : Int)), .int .i64 ((k6 : Int)), .bool (decide ((0 : Int) < k7))]) (by simp [results, Try.results70, go_sem, q0, q1, q2, q3, q4]) rfl ⟨⟨3, 1 + (k1 : Int), (k2 : Int), (k6 : Int), decide ((0 : Int) < k7)⟩, rfl, ⟨⟨by dsimp only; omega, by dsimp only; omega⟩, ⟨by dsimp only; omega, by dsimp only; omega⟩, ⟨by dsimp only; omega, by dsimp only; omega⟩, ⟨by dsimp only; omega, by dsimp only; omega⟩⟩, ?_, ?_⟩
        · refine (Rd.high (L := w.heap.size) hR7 ?_ hRl).mono (by omega)
          repeat (with_reducible refine Agr.setCell ?_ (.inr (by first | exact Nat.le_refl _ | (show w.heap.size ≤ n4; omega))) _)
          with_reducible exact Agr.refl _ _
        · repeat (with_reducible refine Agr.setCell ?_ (.inl (by first | exact Nat.le_refl _ | (show w.heap.size ≤ n4; omega))) _)
          with_reducible exact hA7
      · have t5 : ((k5 : Int) == 0) = false := by rw [beq_eq_false_iff_ne]; omega
        clear h5
        go_wp2
        refine bodyPost_ret (v := .agg #[.int .i64 (3), .int .i64 (1 + (k1 : Int)), .int .i64 ((k2 : Int)), .int .i64 (9), .bool (false)]) (by simp [results, Try.results70, go_sem, q0, q1, q2, q3, q4]) rfl ⟨⟨3, 1 + (k1 : Int), (k2 : Int), 9, false⟩, rfl, ⟨⟨by dsimp only; omega, by dsimp only; omega⟩, ⟨by dsimp only; omega, by dsimp only; omega⟩, ⟨by dsimp only; omega, by dsimp only; omega⟩, ⟨by dsimp only; omega, by dsimp only; omega⟩⟩, ?_, ?_⟩
        · refine (Rd.high (L := w.heap.size) hR5 ?_ hRl).mono (by omega)
          repeat (with_reducible refine Agr.setCell ?_ (.inr (by first | exact Nat.le_refl _ | (show w.heap.size ≤ n4; omega))) _)
          with_reducible exact Agr.refl _ _
        · repeat (with_reducible refine Agr.setCell ?_ (.inl (by first | exact Nat.le_refl _ | (show w.heap.size ≤ n4; omega))) _)
          with_reducible exact hA5

    · have u3 : ((k3 : Int) == 3) = false := by rw [beq_eq_false_iff_ne]; omega
      by_cases h4 : k3 = 4
      · have u4 : ((k3 : Int) == 4) = true := by rw [beq_iff_eq]; omega
        clear h0 h3 h4
        go_wp2_with fail
        refine (spec_pickI 3 3 B R (m + 3) _ rfl (by omega) (by omega) (by omega) hR3).mono ?_
        rintro e w4 ⟨k4, rfl, hk4, hR4, hB4⟩
        replace q0 := (hB4.cell hs3' hne 0).trans q0
        replace f0 := (hB4.fz hs3' hne 0).trans f0
        replace x0 := (hB4.cell hs3 hne4 0).trans x0
        replace y0 := (hB4.fz hs3 hne4 0).trans y0
        replace q1 := (hB4.cell hs3' hne 1).trans q1
        replace f1 := (hB4.fz hs3' hne 1).trans f1
        replace x1 := (hB4.cell hs3 hne4 1).trans x1
        replace y1 := (hB4.fz hs3 hne4 1).trans y1
        replace q2 := (hB4.cell hs3' hne 2).trans q2
        replace f2 := (hB4.fz hs3' hne 2).trans f2
        replace x2 := (hB4.cell hs3 hne4 2).trans x2
        replace y2 := (hB4.fz hs3 hne4 2).trans y2
        replace q3 := (hB4.cell hs3' hne 3).trans q3
        replace f3 := (hB4.fz hs3' hne 3).trans f3
        replace x3 := (hB4.cell hs3 hne4 3).trans x3
        replace y3 := (hB4.fz hs3 hne4 3).trans y3
        replace q4 := (hB4.cell hs3' hne 4).trans q4
        replace f4 := (hB4.fz hs3' hne 4).trans f4
        replace x4 := (hB4.cell hs3 hne4 4).trans x4
        replace y4 := (hB4.fz hs3 hne4 4).trans y4
        have hA4 := hA3.trans hB4 (fun _ _ h => h)
        have hs4 : n4 < w4.heap.size := Nat.lt_of_lt_of_le hs3 hB4.size
        have hs4' : w.heap.size < w4.heap.size := by omega
        clear hB4 hA3 hR3
        by_cases h4 : k4 = 0
        · have t4 : ((k4 : Int) == 0) = true := by subst h4; rfl
          clear h4
          go_wp2_with fail
          have hW := wrote_one x0 (.int .i64 4)
          have hRs : Rd (w4.setCell ⟨n4, 0, none⟩ (.int .i64 4)) B R (m + 4) := hR4.agr hW.agr (by omega) (fun b hb e => by have := hR4.le; omega)
          have hAs : Agr (· = R) w (w4.setCell ⟨n4, 0, none⟩ (.int .i64 4)) := hA4.setCell (.inl (by show w.heap.size ≤ n4; omega)) _
          have x0n : (w4.setCell ⟨n4, 0, none⟩ (.int .i64 4)).cell? ⟨n4, 0, none⟩ = some (.int .i64 4) := hW.new_ 0 _ rfl
          replace q0 := (hW.agr.cell (b := w.heap.size) (by omega) (by omega) 0).trans q0
          replace f0 := (hW.frozen ⟨w.heap.size, 0, none⟩).trans f0
          replace y0 := (hW.frozen ⟨n4, 0, none⟩).trans y0
          replace q1 := (hW.agr.cell (b := w.heap.size) (by omega) (by omega) 1).trans q1
          replace f1 := (hW.frozen ⟨w.heap.size, 1, none⟩).trans f1
          replace x1 := (hW.old_ 1 (by simp)).trans x1
          replace y1 := (hW.frozen ⟨n4, 1, none⟩).trans y1
          replace q2 := (hW.agr.cell (b := w.heap.size) (by omega) (by omega) 2).trans q2
          replace f2 := (hW.frozen ⟨w.heap.size, 2, none⟩).trans f2
          replace x2 := (hW.old_ 2 (by simp)).trans x2
          replace y2 := (hW.frozen ⟨n4, 2, none⟩).trans y2
          replace q3 := (hW.agr.cell (b := w.heap.size) (by omega) (by omega) 3).trans q3
          replace f3 := (hW.frozen ⟨w.heap.size, 3, none⟩).trans f3
          replace x3 := (hW.old_ 3 (by simp)).trans x3
          replace y3 := (hW.frozen ⟨n4, 3, none⟩).trans y3
          replace q4 := (hW.agr.cell (b := w.heap.size) (by omega) (by omega) 4).trans q4
          replace f4 := (hW.frozen ⟨w.heap.size, 4, none⟩).trans f4
          replace x4 := (hW.old_ 4 (by simp)).trans x4
          replace y4 := (hW.frozen ⟨n4, 4, none⟩).trans y4
          replace x0 := x0n
          have hsa : n4 < (w4.setCell ⟨n4, 0, none⟩ (.int .i64 4)).heap.size := by simpa using hs4
          have hsb : w.heap.size < (w4.setCell ⟨n4, 0, none⟩ (.int .i64 4)).heap.size := by simpa using hs4'
          clear hW x0n hR4 hA4
          refine (spec_pickI 4 4 B R (m + 4) _ rfl (by omega) (by omega) (by omega) hRs).mono ?_
          rintro e w5 ⟨k5, rfl, hk5, hR5, hB5⟩
          replace q0 := (hB5.cell hsb hne 0).trans q0
          replace f0 := (hB5.fz hsb hne 0).trans f0
          replace x0 := (hB5.cell hsa hne4 0).trans x0
          replace y0 := (hB5.fz hsa hne4 0).trans y0
          replace q1 := (hB5.cell hsb hne 1).trans q1
          replace f1 := (hB5.fz hsb hne 1).trans f1
          replace x1 := (hB5.cell hsa hne4 1).trans x1
          replace y1 := (hB5.fz hsa hne4 1).trans y1
          replace q2 := (hB5.cell hsb hne 2).trans q2
          replace f2 := (hB5.fz hsb hne 2).trans f2
          replace x2 := (hB5.cell hsa hne4 2).trans x2
          replace y2 := (hB5.fz hsa hne4 2).trans y2
          replace q3 := (hB5.cell hsb hne 3).trans q3
          replace f3 := (hB5.fz hsb hne 3).trans f3
          replace x3 := (hB5.cell hsa hne4 3).trans x3
          replace y3 := (hB5.fz hsa hne4 3).trans y3
          replace q4 := (hB5.cell hsb hne 4).trans q4
          replace f4 := (hB5.fz hsb hne 4).trans f4
          replace x4 := (hB5.cell hsa hne4 4).trans x4
          replace y4 := (hB5.fz hsa hne4 4).trans y4
          have hA5 := hAs.trans hB5 (fun _ _ h => h)
          have hs5 : n4 < w5.heap.size := Nat.lt_of_lt_of_le hsa hB5.size
          have hs5' : w.heap.size < w5.heap.size := by omega
          clear hB5 hAs hRs
          by_cases h5 : k5 = 0
          · have t5 : ((k5 : Int) == 0) = true := by subst h5; rfl
            clear h5
            go_wp2_with fail
            refine (spec_pickI 5 5 B R (m + 5) _ rfl (by omega) (by omega) (by omega) hR5).mono ?_
            rintro e w6 ⟨k6, rfl, hk6, hR6, hB6⟩
            replace q0 := (hB6.cell hs5' hne 0).trans q0
            replace f0 := (hB6.fz hs5' hne 0).trans f0
            replace x0 := (hB6.cell hs5 hne4 0).trans x0
            replace y0 := (hB6.fz hs5 hne4 0).trans y0
            replace q1 := (hB6.cell hs5' hne 1).trans q1
            replace f1 := (hB6.fz hs5' hne 1).trans f1
            replace x1 := (hB6.cell hs5 hne4 1).trans x1
            replace y1 := (hB6.fz hs5 hne4 1).trans y1
            replace q2 := (hB6.cell hs5' hne 2).trans q2
            replace f2 := (hB6.fz hs5' hne 2).trans f2
            replace x2 := (hB6.cell hs5 hne4 2).trans x2
            replace y2 := (hB6.fz hs5 hne4 2).trans y2
            replace q3 := (hB6.cell hs5' hne 3).trans q3
            replace f3 := (hB6.fz hs5' hne 3).trans f3
            replace x3 := (hB6.cell hs5 hne4 3).trans x3
            replace y3 := (hB6.fz hs5 hne4 3).trans y3
            replace q4 := (hB6.cell hs5' hne 4).trans q4
            replace f4 := (hB6.fz hs5' hne 4).trans f4
            replace x4 := (hB6.cell hs5 hne4 4).trans x4
            replace y4 := (hB6.fz hs5 hne4 4).trans y4
            have hA6 := hA5.trans hB6 (fun _ _ h => h)
            have hs6a : n4 < w6.heap.size := Nat.lt_of_lt_of_le hs5 hB6.size
            have hs6b : w.heap.size < w6.heap.size := by omega
            go_wp2_with fail
            have hW := wrote_one x3 (.int .i64 k6)
            have hR6s : Rd (w6.setCell ⟨n4, 3, none⟩ (.int .i64 k6)) B R (m + 6) := hR6.agr hW.agr (by omega) (fun b hb e => by have := hR6.le; omega)
            have hA6s : Agr (· = R) w (w6.setCell ⟨n4, 3, none⟩ (.int .i64 k6)) := hA6.setCell (.inl (by show w.heap.size ≤ n4; omega)) _
            have x3n : (w6.setCell ⟨n4, 3, none⟩ (.int .i64 k6)).cell? ⟨n4, 3, none⟩ = some (.int .i64 k6) := hW.new_ 0 _ rfl
            replace q0 := (hW.agr.cell (b := w.heap.size) (by omega) (by omega) 0).trans q0
            replace f0 := (hW.frozen ⟨w.heap.size, 0, none⟩).trans f0
            replace x0 := (hW.old_ 0 (by simp)).trans x0
            replace y0 := (hW.frozen ⟨n4, 0, none⟩).trans y0
            replace q1 := (hW.agr.cell (b := w.heap.size) (by omega) (by omega) 1).trans q1
            replace f1 := (hW.frozen ⟨w.heap.size, 1, none⟩).trans f1
            replace x1 := (hW.old_ 1 (by simp)).trans x1
            replace y1 := (hW.frozen ⟨n4, 1, none⟩).trans y1
            replace q2 := (hW.agr.cell (b := w.heap.size) (by omega) (by omega) 2).trans q2
            replace f2 := (hW.frozen ⟨w.heap.size, 2, none⟩).trans f2
            replace x2 := (hW.old_ 2 (by simp)).trans x2
            replace y2 := (hW.frozen ⟨n4, 2, none⟩).trans y2
            replace q3 := (hW.agr.cell (b := w.heap.size) (by omega) (by omega) 3).trans q3
            replace f3 := (hW.frozen ⟨w.heap.size, 3, none⟩).trans f3
            replace y3 := (hW.frozen ⟨n4, 3, none⟩).trans y3
            replace q4 := (hW.agr.cell (b := w.heap.size) (by omega) (by omega) 4).trans q4
            replace f4 := (hW.frozen ⟨w.heap.size, 4, none⟩).trans f4
            replace x4 := (hW.old_ 4 (by simp)).trans x4
            replace y4 := (hW.frozen ⟨n4, 4, none⟩).trans y4
            replace x3 := x3n
            have hs7 : n4 < (w6.setCell ⟨n4, 3, none⟩ (.int .i64 k6)).heap.size := by simpa using hs6a
            have hs7' : w.heap.size < (w6.setCell ⟨n4, 3, none⟩ (.int .i64 k6)).heap.size := by simpa using hs6b
            clear hW x3n hB6 hR6 hA6 hA5 hR5
            refine (spec_pickI 3 3 B R (m + 6) _ rfl (by omega) (by omega) (by omega) hR6s).mono ?_
            rintro e w7 ⟨k7, rfl, hk7, hR7, hB7⟩
            replace q0 := (hB7.cell hs7' hne 0).trans q0
            replace f0 := (hB7.fz hs7' hne 0).trans f0
            replace x0 := (hB7.cell hs7 hne4 0).trans x0
            replace y0 := (hB7.fz hs7 hne4 0).trans y0
            replace q1 := (hB7.cell hs7' hne 1).trans q1
            replace f1 := (hB7.fz hs7' hne 1).trans f1
            replace x1 := (hB7.cell hs7 hne4 1).trans x1
            replace y1 := (hB7.fz hs7 hne4 1).trans y1
            replace q2 := (hB7.cell hs7' hne 2).trans q2
            replace f2 := (hB7.fz hs7' hne 2).trans f2
            replace x2 := (hB7.cell hs7 hne4 2).trans x2
            replace y2 := (hB7.fz hs7 hne4 2).trans y2
            replace q3 := (hB7.cell hs7' hne 3).trans q3
            replace f3 := (hB7.fz hs7' hne 3).trans f3
            replace x3 := (hB7.cell hs7 hne4 3).trans x3
            replace y3 := (hB7.fz hs7 hne4 3).trans y3
            replace q4 := (hB7.cell hs7' hne 4).trans q4
            replace f4 := (hB7.fz hs7' hne 4).trans f4
            replace x4 := (hB7.cell hs7 hne4 4).trans x4
            replace y4 := (hB7.fz hs7 hne4 4).trans y4
            have hA7 := hA6s.trans hB7 (fun _ _ h => h)
            have hs7a : n4 < w7.heap.size := Nat.lt_of_lt_of_le hs7 hB7.size
            have hs7b : w.heap.size < w7.heap.size := by omega
            clear hB7 hR6s hA6s hs7 hs7'
            go_wp2
            refine bodyPost_ret (v := .agg #[.int .i64 (4), .int .i64 (1 + (k1 : Int)), .int .i64 ((k2 : Int)), .int .i64 ((k6 : Int)), .bool (decide ((0 : Int) < k7))]) (by simp [results, Try.results70, go_sem, q0, q1, q2, q3, q4]) rfl ⟨⟨4, 1 + (k1 : Int), (k2 : Int), (k6 : Int), decide ((0 : Int) < k7)⟩, rfl, ⟨⟨by dsimp only; omega, by dsimp only; omega⟩, ⟨by dsimp only; omega, by dsimp only; omega⟩, ⟨by dsimp only; omega, by dsimp only; omega⟩, ⟨by dsimp only; omega, by dsimp only; omega⟩⟩, ?_, ?_⟩
            · refine (Rd.high (L := w.heap.size) hR7 ?_ hRl).mono (by omega)
              repeat (with_reducible refine Agr.setCell ?_ (.inr (by first | exact Nat.le_refl _ | (show w.heap.size ≤ n4; omega))) _)
              with_reducible exact Agr.refl _ _
            · repeat (with_reducible refine Agr.setCell ?_ (.inl (by first | exact Nat.le_refl _ | (show w.heap.size ≤ n4; omega))) _)
              with_reducible exact hA7
          · have t5 : ((k5 : Int) == 0) = false := by rw [beq_eq_false_iff_ne]; omega
            clear h5
            go_wp2
            refine bodyPost_ret (v := .agg #[.int .i64 (4), .int .i64 (1 + (k1 : Int)), .int .i64 ((k2 : Int)), .int .i64 (9), .bool (false)]) (by simp [results, Try.results70, go_sem, q0, q1, q2, q3, q4]) rfl ⟨⟨4, 1 + (k1 : Int), (k2 : Int), 9, false⟩, rfl, ⟨⟨by dsimp only; omega, by dsimp only; omega⟩, ⟨by dsimp only; omega, by dsimp only; omega⟩, ⟨by dsimp only; omega, by dsimp only; omega⟩, ⟨by dsimp only; omega, by dsimp only; omega⟩⟩, ?_, ?_⟩
            · refine (Rd.high (L := w.heap.size) hR5 ?_ hRl).mono (by omega)
              repeat (with_reducible refine Agr.setCell ?_ (.inr (by first | exact Nat.le_refl _ | (show w.heap.size ≤ n4; omega))) _)
              with_reducible exact Agr.refl _ _
            · repeat (with_reducible refine Agr.setCell ?_ (.inl (by first | exact Nat.le_refl _ | (show w.heap.size ≤ n4; omega))) _)
              with_reducible exact hA5

        · have t4 : ((k4 : Int) == 0) = false := by rw [beq_eq_false_iff_ne]; omega
          clear h4
          go_wp2_with fail
          refine (spec_pickI 4 4 B R (m + 4) _ rfl (by omega) (by omega) (by omega) hR4).mono ?_
          rintro e w5 ⟨k5, rfl, hk5, hR5, hB5⟩
          replace q0 := (hB5.cell hs4' hne 0).trans q0
          replace f0 := (hB5.fz hs4' hne 0).trans f0
          replace x0 := (hB5.cell hs4 hne4 0).trans x0
          replace y0 := (hB5.fz hs4 hne4 0).trans y0
          replace q1 := (hB5.cell hs4' hne 1).trans q1
          replace f1 := (hB5.fz hs4' hne 1).trans f1
          replace x1 := (hB5.cell hs4 hne4 1).trans x1
          replace y1 := (hB5.fz hs4 hne4 1).trans y1
          replace q2 := (hB5.cell hs4' hne 2).trans q2
          replace f2 := (hB5.fz hs4' hne 2).trans f2
          replace x2 := (hB5.cell hs4 hne4 2).trans x2
          replace y2 := (hB5.fz hs4 hne4 2).trans y2
          replace q3 := (hB5.cell hs4' hne 3).trans q3
          replace f3 := (hB5.fz hs4' hne 3).trans f3
          replace x3 := (hB5.cell hs4 hne4 3).trans x3
          replace y3 := (hB5.fz hs4 hne4 3).trans y3
          replace q4 := (hB5.cell hs4' hne 4).trans q4
          replace f4 := (hB5.fz hs4' hne 4).trans f4
          replace x4 := (hB5.cell hs4 hne4 4).trans x4
          replace y4 := (hB5.fz hs4 hne4 4).trans y4
          have hA5 := hA4.trans hB5 (fun _ _ h => h)
          have hs5 : n4 < w5.heap.size := Nat.lt_of_lt_of_le hs4 hB5.size
          have hs5' : w.heap.size < w5.heap.size := by omega
          clear hB5 hA4 hR4
          by_cases h5 : k5 = 0
          · have t5 : ((k5 : Int) == 0) = true := by subst h5; rfl
            clear h5
            go_wp2_with fail
            refine (spec_pickI 5 5 B R (m + 5) _ rfl (by omega) (by omega) (by omega) hR5).mono ?_
            rintro e w6 ⟨k6, rfl, hk6, hR6, hB6⟩
            replace q0 := (hB6.cell hs5' hne 0).trans q0
            replace f0 := (hB6.fz hs5' hne 0).trans f0
            replace x0 := (hB6.cell hs5 hne4 0).trans x0
            replace y0 := (hB6.fz hs5 hne4 0).trans y0
            replace q1 := (hB6.cell hs5' hne 1).trans q1
            replace f1 := (hB6.fz hs5' hne 1).trans f1
            replace x1 := (hB6.cell hs5 hne4 1).trans x1
            replace y1 := (hB6.fz hs5 hne4 1).trans y1
            replace q2 := (hB6.cell hs5' hne 2).trans q2
            replace f2 := (hB6.fz hs5' hne 2).trans f2
            replace x2 := (hB6.cell hs5 hne4 2).trans x2
            replace y2 := (hB6.fz hs5 hne4 2).trans y2
            replace q3 := (hB6.cell hs5' hne 3).trans q3
            replace f3 := (hB6.fz hs5' hne 3).trans f3
            replace x3 := (hB6.cell hs5 hne4 3).trans x3
            replace y3 := (hB6.fz hs5 hne4 3).trans y3
            replace q4 := (hB6.cell hs5' hne 4).trans q4
            replace f4 := (hB6.fz hs5' hne 4).trans f4
            replace x4 := (hB6.cell hs5 hne4 4).trans x4
            replace y4 := (hB6.fz hs5 hne4 4).trans y4
            have hA6 := hA5.trans hB6 (fun _ _ h => h)
            have hs6a : n4 < w6.heap.size := Nat.lt_of_lt_of_le hs5 hB6.size
            have hs6b : w.heap.size < w6.heap.size := by omega
            go_wp2_with fail
            have hW := wrote_one x3 (.int .i64 k6)
            have hR6s : Rd (w6.setCell ⟨n4, 3, none⟩ (.int .i64 k6)) B R (m + 6) := hR6.agr hW.agr (by omega) (fun b hb e => by have := hR6.le; omega)
            have hA6s : Agr (· = R) w (w6.setCell ⟨n4, 3, none⟩ (.int .i64 k6)) := hA6.setCell (.inl (by show w.heap.size ≤ n4; omega)) _
            have x3n : (w6.setCell ⟨n4, 3, none⟩ (.int .i64 k6)).cell? ⟨n4, 3, none⟩ = some (.int .i64 k6) := hW.new_ 0 _ rfl
            replace q0 := (hW.agr.cell (b := w.heap.size) (by omega) (by omega) 0).trans q0
            replace f0 := (hW.frozen ⟨w.heap.size, 0, none⟩).trans f0
            replace x0 := (hW.old_ 0 (by simp)).trans x0
            replace y0 := (hW.frozen ⟨n4, 0, none⟩).trans y0
            replace q1 := (hW.agr.cell (b := w.heap.size) (by omega) (by omega) 1).trans q1
            replace f1 := (hW.frozen ⟨w.heap.size, 1, none⟩).trans f1
            replace x1 := (hW.old_ 1 (by simp)).trans x1
            replace y1 := (hW.frozen ⟨n4, 1, none⟩).trans y1
            replace q2 := (hW.agr.cell (b := w.heap.size) (by omega) (by omega) 2).trans q2
            replace f2 := (hW.frozen ⟨w.heap.size, 2, none⟩).trans f2
            replace x2 := (hW.old_ 2 (by simp)).trans x2
            replace y2 := (hW.frozen ⟨n4, 2, none⟩).trans y2
            replace q3 := (hW.agr.cell (b := w.heap.size) (by omega) (by omega) 3).trans q3
            replace f3 := (hW.frozen ⟨w.heap.size, 3, none⟩).trans f3
            replace y3 := (hW.frozen ⟨n4, 3, none⟩).trans y3
            replace q4 := (hW.agr.cell (b := w.heap.size) (by omega) (by omega) 4).trans q4
            replace f4 := (hW.frozen ⟨w.heap.size, 4, none⟩).trans f4
            replace x4 := (hW.old_ 4 (by simp)).trans x4
            replace y4 := (hW.frozen ⟨n4, 4, none⟩).trans y4
            replace x3 := x3n
            have hs7 : n4 < (w6.setCell ⟨n4, 3, none⟩ (.int .i64 k6)).heap.size := by simpa using hs6a
            have hs7' : w.heap.size < (w6.setCell ⟨n4, 3, none⟩ (.int .i64 k6)).heap.size := by simpa using hs6b
            clear hW x3n hB6 hR6 hA6 hA5 hR5
            refine (spec_pickI 3 3 B R (m + 6) _ rfl (by omega) (by omega) (by omega) hR6s).mono ?_
            rintro e w7 ⟨k7, rfl, hk7, hR7, hB7⟩
            replace q0 := (hB7.cell hs7' hne 0).trans q0
            replace f0 := (hB7.fz hs7' hne 0).trans f0
            replace x0 := (hB7.cell hs7 hne4 0).trans x0
            replace y0 := (hB7.fz hs7 hne4 0).trans y0
            replace q1 := (hB7.cell hs7' hne 1).trans q1
            replace f1 := (hB7.fz hs7' hne 1).trans f1
            replace x1 := (hB7.cell hs7 hne4 1).trans x1
            replace y1 := (hB7.fz hs7 hne4 1).trans y1
            replace q2 := (hB7.cell hs7' hne 2).trans q2
            replace f2 := (hB7.fz hs7' hne 2).trans f2
            replace x2 := (hB7.cell hs7 hne4 2).trans x2
            replace y2 := (hB7.fz hs7 hne4 2).trans y2
            replace q3 := (hB7.cell hs7' hne 3).trans q3
            replace f3 := (hB7.fz hs7' hne 3).trans f3
            replace x3 := (hB7.cell hs7 hne4 3).trans x3
            replace y3 := (hB7.fz hs7 hne4 3).trans y3
            replace q4 := (hB7.cell hs7' hne 4).trans q4
            replace f4 := (hB7.fz hs7' hne 4).trans f4
            replace x4 := (hB7.cell hs7 hne4 4).trans x4
            replace y4 := (hB7.fz hs7 hne4 4).trans y4
            have hA7 := hA6s.trans hB7 (fun _ _ h => h)
            have hs7a : n4 < w7.heap.size := Nat.lt_of_lt_of_le hs7 hB7.size
            have hs7b : w.heap.size < w7.heap.size := by omega
            clear hB7 hR6s hA6s hs7 hs7'
            go_wp2
            refine bodyPost_ret (v := .agg #[.int .i64 (1), .int .i64 (1 + (k1 : Int)), .int .i64 ((k2 : Int)), .int .i64 ((k6 : Int)), .bool (decide ((0 : Int) < k7))]) (by simp [results, Try.results70, go_sem, q0, q1, q2, q3, q4]) rfl ⟨⟨1, 1 + (k1 : Int), (k2 : Int), (k6 : Int), decide ((0 : Int) < k7)⟩, rfl, ⟨⟨by dsimp only; omega, by dsimp only; omega⟩, ⟨by dsimp only; omega, by dsimp only; omega⟩, ⟨by dsimp only; omega, by dsimp only; omega⟩, ⟨by dsimp only; omega, by dsimp only; omega⟩⟩, ?_, ?_⟩
            · refine (Rd.high (L := w.heap.size) hR7 ?_ hRl).mono (by omega)
              repeat (with_reducible refine Agr.setCell ?_ (.inr (by first | exact Nat.le_refl _ | (show w.heap.size ≤ n4; omega))) _)
              with_reducible exact Agr.refl _ _
            · repeat (with_reducible refine Agr.setCell ?_ (.inl (by first | exact Nat.le_refl _ | (show w.heap.size ≤ n4; omega))) _)
              with_reducible exact hA7
          · have t5 : ((k5 : Int) == 0) = false := by rw [beq_eq_false_iff_ne]; omega
            clear h5
            go_wp2
            refine bodyPost_ret (v := .agg #[.int .i64 (1), .int .i64 (1 + (k1 : Int)), .int .i64 ((k2 : Int)), .int .i64 (9), .bool (false)]) (by simp [results, Try.results70, go_sem, q0, q1, q2, q3, q4]) rfl ⟨⟨1, 1 + (k1 : Int), (k2 : Int), 9, false⟩, rfl, ⟨⟨by dsimp only; omega, by dsimp only; omega⟩, ⟨by dsimp only; omega, by dsimp only; omega⟩, ⟨by dsimp only; omega, by dsimp only; omega⟩, ⟨by dsimp only; omega, by dsimp only; omega⟩⟩, ?_, ?_⟩
            · refine (Rd.high (L := w.heap.size) hR5 ?_ hRl).mono (by omega)
              repeat (with_reducible refine Agr.setCell ?_ (.inr (by first | exact Nat.le_refl _ | (show w.heap.size ≤ n4; omega))) _)
              with_reducible exact Agr.refl _ _
            · repeat (with_reducible refine Agr.setCell ?_ (.inl (by first | exact Nat.le_refl _ | (show w.heap.size ≤ n4; omega))) _)
              with_reducible exact hA5

      · have u4 : ((k3 : Int) == 4) = false := by rw [beq_eq_false_iff_ne]; omega
        clear h0 h3 h4
        go_wp2_with fail
        refine (spec_pickI 4 4 B R (m + 3) _ rfl (by omega) (by omega) (by omega) hR3).mono ?_
        rintro e w5 ⟨k5, rfl, hk5, hR5, hB5⟩
        replace q0 := (hB5.cell hs3' hne 0).trans q0
        replace f0 := (hB5.fz hs3' hne 0).trans f0
        replace x0 := (hB5.cell hs3 hne4 0).trans x0
        replace y0 := (hB5.fz hs3 hne4 0).trans y0
        replace q1 := (hB5.cell hs3' hne 1).trans q1
        replace f1 := (hB5.fz hs3' hne 1).trans f1
        replace x1 := (hB5.cell hs3 hne4 1).trans x1
        replace y1 := (hB5.fz hs3 hne4 1).trans y1
        replace q2 := (hB5.cell hs3' hne 2).trans q2
        replace f2 := (hB5.fz hs3' hne 2).trans f2
        replace x2 := (hB5.cell hs3 hne4 2).trans x2
        replace y2 := (hB5.fz hs3 hne4 2).trans y2
        replace q3 := (hB5.cell hs3' hne 3).trans q3
        replace f3 := (hB5.fz hs3' hne 3).trans f3
        replace x3 := (hB5.cell hs3 hne4 3).trans x3
        replace y3 := (hB5.fz hs3 hne4 3).trans y3
        replace q4 := (hB5.cell hs3' hne 4).trans q4
        replace f4 := (hB5.fz hs3' hne 4).trans f4
        replace x4 := (hB5.cell hs3 hne4 4).trans x4
        replace y4 := (hB5.fz hs3 hne4 4).trans y4
        have hA5 := hA3.trans hB5 (fun _ _ h => h)
        have hs5 : n4 < w5.heap.size := Nat.lt_of_lt_of_le hs3 hB5.size
        have hs5' : w.heap.size < w5.heap.size := by omega
        clear hB5 hA3 hR3
        by_cases h5 : k5 = 0
        · have t5 : ((k5 : Int) == 0) = true := by subst h5; rfl
          clear h5
          go_wp2_with fail
          refine (spec_pickI 5 5 B R (m + 4) _ rfl (by omega) (by omega) (by omega) hR5).mono ?_
          rintro e w6 ⟨k6, rfl, hk6, hR6, hB6⟩
          replace q0 := (hB6.cell hs5' hne 0).trans q0
          replace f0 := (hB6.fz hs5' hne 0).trans f0
          replace x0 := (hB6.cell hs5 hne4 0).trans x0
          replace y0 := (hB6.fz hs5 hne4 0).trans y0
          replace q1 := (hB6.cell hs5' hne 1).trans q1
          replace f1 := (hB6.fz hs5' hne 1).trans f1
          replace x1 := (hB6.cell hs5 hne4 1).trans x1
          replace y1 := (hB6.fz hs5 hne4 1).trans y1
          replace q2 := (hB6.cell hs5' hne 2).trans q2
          replace f2 := (hB6.fz hs5' hne 2).trans f2
          replace x2 := (hB6.cell hs5 hne4 2).trans x2
          replace y2 := (hB6.fz hs5 hne4 2).trans y2
          replace q3 := (hB6.cell hs5' hne 3).trans q3
          replace f3 := (hB6.fz hs5' hne 3).trans f3
          replace x3 := (hB6.cell hs5 hne4 3).trans x3
          replace y3 := (hB6.fz hs5 hne4 3).trans y3
          replace q4 := (hB6.cell hs5' hne 4).trans q4
          replace f4 := (hB6.fz hs5' hne 4).trans f4
          replace x4 := (hB6.cell hs5 hne4 4).trans x4
          replace y4 := (hB6.fz hs5 hne4 4).trans y4
          have hA6 := hA5.trans hB6 (fun _ _ h => h)
          have hs6a : n4 < w6.heap.size := Nat.lt_of_lt_of_le hs5 hB6.size
          have hs6b : w.heap.size < w6.heap.size := by omega
          go_wp2_with fail
          have hW := wrote_one x3 (.int .i64 k6)
          have hR6s : Rd (w6.setCell ⟨n4, 3, none⟩ (.int .i64 k6)) B R (m + 5) := hR6.agr hW.agr (by omega) (fun b hb e => by have := hR6.le; omega)
          have hA6s : Agr (· = R) w (w6.setCell ⟨n4, 3, none⟩ (.int .i64 k6)) := hA6.setCell (.inl (by show w.heap.size ≤ n4; omega)) _
          have x3n : (w6.setCell ⟨n4, 3, none⟩ (.int .i64 k6)).cell? ⟨n4, 3, none⟩ = some (.int .i64 k6) := hW.new_ 0 _ rfl
          replace q0 := (hW.agr.cell (b := w.heap.size) (by omega) (by omega) 0).trans q0
          replace f0 := (hW.frozen ⟨w.heap.size, 0, none⟩).trans f0
          replace x0 := (hW.old_ 0 (by simp)).trans x0
          replace y0 := (hW.frozen ⟨n4, 0, none⟩).trans y0
          replace q1 := (hW.agr.cell (b := w.heap.size) (by omega) (by omega) 1).trans q1
          replace f1 := (hW.frozen ⟨w.heap.size, 1, none⟩).trans f1
          replace x1 := (hW.old_ 1 (by simp)).trans x1
          replace y1 := (hW.frozen ⟨n4, 1, none⟩).trans y1
          replace q2 := (hW.agr.cell (b := w.heap.size) (by omega) (by omega) 2).trans q2
          replace f2 := (hW.frozen ⟨w.heap.size, 2, none⟩).trans f2
          replace x2 := (hW.old_ 2 (by simp)).trans x2
          replace y2 := (hW.frozen ⟨n4, 2, none⟩).trans y2
          replace q3 := (hW.agr.cell (b := w.heap.size) (by omega) (by omega) 3).trans q3
          replace f3 := (hW.frozen ⟨w.heap.size, 3, none⟩).trans f3
          replace y3 := (hW.frozen ⟨n4, 3, none⟩).trans y3
          replace q4 := (hW.agr.cell (b := w.heap.size) (by omega) (by omega) 4).trans q4
          replace f4 := (hW.frozen ⟨w.heap.size, 4, none⟩).trans f4
          replace x4 := (hW.old_ 4 (by simp)).trans x4
          replace y4 := (hW.frozen ⟨n4, 4, none⟩).trans y4
          replace x3 := x3n
          have hs7 : n4 < (w6.setCell ⟨n4, 3, none⟩ (.int .i64 k6)).heap.size := by simpa using hs6a
          have hs7' : w.heap.size < (w6.setCell ⟨n4, 3, none⟩ (.int .i64 k6)).heap.size := by simpa using hs6b
          clear hW x3n hB6 hR6 hA6 hA5 hR5
          refine (spec_pickI 3 3 B R (m + 5) _ rfl (by omega) (by omega) (by omega) hR6s).mono ?_
          rintro e w7 ⟨k7, rfl, hk7, hR7, hB7⟩
          replace q0 := (hB7.cell hs7' hne 0).trans q0
          replace f0 := (hB7.fz hs7' hne 0).trans f0
          replace x0 := (hB7.cell hs7 hne4 0).trans x0
          replace y0 := (hB7.fz hs7 hne4 0).trans y0
          replace q1 := (hB7.cell hs7' hne 1).trans q1
          replace f1 := (hB7.fz hs7' hne 1).trans f1
          replace x1 := (hB7.cell hs7 hne4 1).trans x1
          replace y1 := (hB7.fz hs7 hne4 1).trans y1
          replace q2 := (hB7.cell hs7' hne 2).trans q2
          replace f2 := (hB7.fz hs7' hne 2).trans f2
          replace x2 := (hB7.cell hs7 hne4 2).trans x2
          replace y2 := (hB7.fz hs7 hne4 2).trans y2
          replace q3 := (hB7.cell hs7' hne 3).trans q3
          replace f3 := (hB7.fz hs7' hne 3).trans f3
          replace x3 := (hB7.cell hs7 hne4 3).trans x3
          replace y3 := (hB7.fz hs7 hne4 3).trans y3
          replace q4 := (hB7.cell hs7' hne 4).trans q4
          replace f4 := (hB7.fz hs7' hne 4).trans f4
          replace x4 := (hB7.cell hs7 hne4 4).trans x4
          replace y4 := (hB7.fz hs7 hne4 4).trans y4
          have hA7 := hA6s.trans hB7 (fun _ _ h => h)
          have hs7a : n4 < w7.heap.size := Nat.lt_of_lt_of_le hs7 hB7.size
          have hs7b : w.heap.size < w7.heap.size := by omega
          clear hB7 hR6s hA6s hs7 hs7'
          go_wp2
          refine bodyPost_ret (v := .agg #[.int .i64 (1), .int .i64 (1 + (k1 : Int)), .int .i64 ((k2 : Int)), .int .i64 ((k6 : Int)), .bool (decide ((0 : Int) < k7))]) (by simp [results, Try.results70, go_sem, q0, q1, q2, q3, q4]) rfl ⟨⟨1, 1 + (k1 : Int), (k2 : Int), (k6 : Int), decide ((0 : Int) < k7)⟩, rfl, ⟨⟨by dsimp only; omega, by dsimp only; omega⟩, ⟨by dsimp only; omega, by dsimp only; omega⟩, ⟨by dsimp only; omega, by dsimp only; omega⟩, ⟨by dsimp only; omega, by dsimp only; omega⟩⟩, ?_, ?_⟩
          · refine (Rd.high (L := w.heap.size) hR7 ?_ hRl).mono (by omega)
            repeat (with_reducible refine Agr.setCell ?_ (.inr (by first | exact Nat.le_refl _ | (show w.heap.size ≤ n4; omega))) _)
            with_reducible exact Agr.refl _ _
          · repeat (with_reducible refine Agr.setCell ?_ (.inl (by first | exact Nat.le_refl _ | (show w.heap.size ≤ n4; omega))) _)
            with_reducible exact hA7
        · have t5 : ((k5 : Int) == 0) = false := by rw [beq_eq_false_iff_ne]; omega
          clear h5
          go_wp2
          refine bodyPost_ret (v := .agg #[.int .i64 (1), .int .i64 (1 + (k1 : Int)), .int .i64 ((k2 : Int)), .int .i64 (9), .bool (false)]) (by simp [results, Try.results70, go_sem, q0, q1, q2, q3, q4]) rfl ⟨⟨1, 1 + (k1 : Int), (k2 : Int), 9, false⟩, rfl, ⟨⟨by dsimp only; omega, by dsimp only; omega⟩, ⟨by dsimp only; omega, by dsimp only; omega⟩, ⟨by dsimp only; omega, by dsimp only; omega⟩, ⟨by dsimp only; omega, by dsimp only; omega⟩⟩, ?_, ?_⟩
          · refine (Rd.high (L := w.heap.size) hR5 ?_ hRl).mono (by omega)
            repeat (with_reducible refine Agr.setCell ?_ (.inr (by first | exact Nat.le_refl _ | (show w.heap.size ≤ n4; omega))) _)
            with_reducible exact Agr.refl _ _
          · repeat (with_reducible refine Agr.setCell ?_ (.inl (by first | exact Nat.le_refl _ | (show w.heap.size ≤ n4; omega))) _)
            with_reducible exact hA5

end Go.Proofs.Ytfkjhnfbajflaaa
