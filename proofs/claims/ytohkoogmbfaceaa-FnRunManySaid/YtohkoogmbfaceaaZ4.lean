/- What the laws' walks share: words, plain laws, and the walks of functions, part 4. -/
import Derived.Test.YtohkoogmbfaceaaZ3
namespace Go.Proofs.Ytohkoogmbfaceaa
set_option linter.unusedVariables false
set_option linter.unusedSimpArgs false
open Go.RowKit Go.Maps
set_option maxHeartbeats 400000
def evFine (e : Ev) : Prop := (1 ≤ e.kind ∧ e.kind ≤ 4) ∧ (1 ≤ e.a ∧ e.a ≤ 6) ∧ (0 ≤ e.b ∧ e.b ≤ 9) ∧ (0 ≤ e.c ∧ e.c ≤ 9)
set_option maxHeartbeats 4000000 in
set_option maxRecDepth 100000 in
theorem spec_l71Event (B R m : Nat) (w : World) (hm : m ≤ 900000) (hR : Rd w B R m) :
    Calls Try.prog 36 #[.pointer (some ⟨R, 0, none⟩)] w fun e w' => ∃ x : Ev, e = .returned (.agg #[.int .i64 x.kind, .int .i64 x.a, .int .i64 x.b, .int .i64 x.c, .bool x.torn]) ∧ evFine x ∧ Rd w' B R (m + 7) ∧ Agr (· = R) w w' := by
  have hRl := hR.lt
  have hq := Row.new w #[.int .i64 0, .int .i64 0, .int .i64 0, .int .i64 0, .bool false] 34
  obtain ⟨q0, f0⟩ := hq.at0 (j := 0) rfl
  obtain ⟨q1, f1⟩ := hq.at0 (j := 1) rfl
  obtain ⟨q2, f2⟩ := hq.at0 (j := 2) rfl
  obtain ⟨q3, f3⟩ := hq.at0 (j := 3) rfl
  obtain ⟨q4, f4⟩ := hq.at0 (j := 4) rfl
  have hR0 := hR.alloc (.cells #[.int .i64 0, .int .i64 0, .int .i64 0, .int .i64 0, .bool false] 34)
  have hA0 : Agr (· = R) w (w.alloc (.cells #[.int .i64 0, .int .i64 0, .int .i64 0, .int .i64 0, .bool false] 34)) := (Agr.refl _ _).alloc _
  have hs0 : w.heap.size < (w.alloc (.cells #[.int .i64 0, .int .i64 0, .int .i64 0, .int .i64 0, .bool false] 34)).heap.size := by simp
  have hne : ¬ w.heap.size = R := by omega
  clear hq
  go_enter Try.func36, Try.ntmps36
  go_wp2_with fail
  refine (spec_pickI 6 6 B R (m + 0) _ rfl (by omega) (by omega) (by omega) hR0).mono ?_
  rintro e w1 ⟨k1, rfl, hk1, hR1, hB1⟩
  replace q0 := (hB1.cell hs0 hne 0).trans q0
  replace f0 := (hB1.fz hs0 hne 0).trans f0
  replace q1 := (hB1.cell hs0 hne 1).trans q1
  replace f1 := (hB1.fz hs0 hne 1).trans f1
  replace q2 := (hB1.cell hs0 hne 2).trans q2
  replace f2 := (hB1.fz hs0 hne 2).trans f2
  replace q3 := (hB1.cell hs0 hne 3).trans q3
  replace f3 := (hB1.fz hs0 hne 3).trans f3
  replace q4 := (hB1.cell hs0 hne 4).trans q4
  replace f4 := (hB1.fz hs0 hne 4).trans f4
  have hs1 : w.heap.size < w1.heap.size := Nat.lt_of_lt_of_le hs0 hB1.size
  have hA1 := hA0.trans hB1 (fun _ _ h => h)
  have e1 : IntKind.i64.wrap (1 + (k1 : Int)) = 1 + k1 := IntWalk.i64_in _ (by omega)
  clear hR0 hA0 hs0 hB1
  go_wp2_with fail
  refine (spec_pickI 10 10 B R (m + 1) _ rfl (by omega) (by omega) (by omega) hR1).mono ?_
  rintro e w2 ⟨k2, rfl, hk2, hR2, hB2⟩
  replace q0 := (hB2.cell hs1 hne 0).trans q0
  replace f0 := (hB2.fz hs1 hne 0).trans f0
  replace q1 := (hB2.cell hs1 hne 1).trans q1
  replace f1 := (hB2.fz hs1 hne 1).trans f1
  replace q2 := (hB2.cell hs1 hne 2).trans q2
  replace f2 := (hB2.fz hs1 hne 2).trans f2
  replace q3 := (hB2.cell hs1 hne 3).trans q3
  replace f3 := (hB2.fz hs1 hne 3).trans f3
  replace q4 := (hB2.cell hs1 hne 4).trans q4
  replace f4 := (hB2.fz hs1 hne 4).trans f4
  have hs2 : w.heap.size < w2.heap.size := Nat.lt_of_lt_of_le hs1 hB2.size
  have hA2 := hA1.trans hB2 (fun _ _ h => h)
  clear hR1 hA1 hs1 hB2
  obtain ⟨n4, hn4⟩ : ∃ n, n = w2.heap.size := ⟨_, rfl⟩
  have hx := Row.new w2 #[.int .i64 1, .int .i64 (1 + k1), .int .i64 k2, .int .i64 9, .bool false] 34
  obtain ⟨x0, y0⟩ := hx.at0 (j := 0) rfl
  obtain ⟨x1, y1⟩ := hx.at0 (j := 1) rfl
  obtain ⟨x2, y2⟩ := hx.at0 (j := 2) rfl
  obtain ⟨x3, y3⟩ := hx.at0 (j := 3) rfl
  obtain ⟨x4, y4⟩ := hx.at0 (j := 4) rfl
  have hq2 : ∀ (i : Nat) u, w2.cell? ⟨w.heap.size, i, none⟩ = u → (w2.alloc (.cells #[.int .i64 1, .int .i64 (1 + k1), .int .i64 k2, .int .i64 9, .bool false] 34)).cell? ⟨w.heap.size, i, none⟩ = u := fun i u h => (((Below.refl w2.heap.size w2).alloc (Nat.le_refl _) _).cell (p := ⟨w.heap.size, i, none⟩) hs2).trans h
  have hf2 : ∀ (i : Nat) u, w2.frozen? ⟨w.heap.size, i, none⟩ = u → (w2.alloc (.cells #[.int .i64 1, .int .i64 (1 + k1), .int .i64 k2, .int .i64 9, .bool false] 34)).frozen? ⟨w.heap.size, i, none⟩ = u := fun i u h => (((Below.refl w2.heap.size w2).alloc (Nat.le_refl _) _).frozen (p := ⟨w.heap.size, i, none⟩) hs2).trans h
  replace q0 := hq2 0 _ q0
  replace f0 := hf2 0 _ f0
  replace q1 := hq2 1 _ q1
  replace f1 := hf2 1 _ f1
  replace q2 := hq2 2 _ q2
  replace f2 := hf2 2 _ f2
  replace q3 := hq2 3 _ q3
  replace f3 := hf2 3 _ f3
  replace q4 := hq2 4 _ q4
  replace f4 := hf2 4 _ f4
  have hs4' : w2.heap.size < (w2.alloc (.cells #[.int .i64 1, .int .i64 (1 + k1), .int .i64 k2, .int .i64 9, .bool false] 34)).heap.size := by simp
  have hs4'' : w.heap.size < (w2.alloc (.cells #[.int .i64 1, .int .i64 (1 + k1), .int .i64 k2, .int .i64 9, .bool false] 34)).heap.size := by simp; omega
  have hne4 : ¬ w2.heap.size = R := by omega
  have hAa : Agr (· = R) w (w2.alloc (.cells #[.int .i64 1, .int .i64 (1 + k1), .int .i64 k2, .int .i64 9, .bool false] 34)) := hA2.alloc _
  clear hx hq2 hf2
  go_wp2_with fail
  refine (spec_pickI 12 12 B R (m + 2) _ rfl (by omega) (by omega) (by omega) (hR2.alloc _)).mono ?_
  rintro e w3 ⟨k3, rfl, hk3, hR3, hB3⟩
  replace q0 := (hB3.cell hs4'' hne 0).trans q0
  replace f0 := (hB3.fz hs4'' hne 0).trans f0
  replace x0 := (hB3.cell hs4' hne4 0).trans x0
  replace y0 := (hB3.fz hs4' hne4 0).trans y0
  replace q1 := (hB3.cell hs4'' hne 1).trans q1
  replace f1 := (hB3.fz hs4'' hne 1).trans f1
  replace x1 := (hB3.cell hs4' hne4 1).trans x1
  replace y1 := (hB3.fz hs4' hne4 1).trans y1
  replace q2 := (hB3.cell hs4'' hne 2).trans q2
  replace f2 := (hB3.fz hs4'' hne 2).trans f2
  replace x2 := (hB3.cell hs4' hne4 2).trans x2
  replace y2 := (hB3.fz hs4' hne4 2).trans y2
  replace q3 := (hB3.cell hs4'' hne 3).trans q3
  replace f3 := (hB3.fz hs4'' hne 3).trans f3
  replace x3 := (hB3.cell hs4' hne4 3).trans x3
  replace y3 := (hB3.fz hs4' hne4 3).trans y3
  replace q4 := (hB3.cell hs4'' hne 4).trans q4
  replace f4 := (hB3.fz hs4'' hne 4).trans f4
  replace x4 := (hB3.cell hs4' hne4 4).trans x4
  replace y4 := (hB3.fz hs4' hne4 4).trans y4
  have hs3 : w2.heap.size < w3.heap.size := Nat.lt_of_lt_of_le hs4' hB3.size
  have hA3 := hAa.trans hB3 (fun _ _ h => h)
  have hs6 : w.heap.size < n4 := by omega
  rw [← hn4] at *
  have hs3' : w.heap.size < w3.heap.size := by omega
  clear hAa hB3 hA2 hR2 hs4' hs4'' hn4
  by_cases h0 : k3 < 3
  · have h01 : k3 = 0 ∨ k3 = 1 ∨ k3 = 2 := by omega
    clear h0
    rcases h01 with rfl | rfl | rfl
    · clear hk3
      go_wp2_with fail
      have hW := wrote_one x0 (.int .i64 2)
      have hRs : Rd (w3.setCell ⟨n4, 0, none⟩ (.int .i64 2)) B R (m + 3) := hR3.agr hW.agr (by omega) (fun b hb e => by have := hR3.le; omega)
      have hAs : Agr (· = R) w (w3.setCell ⟨n4, 0, none⟩ (.int .i64 2)) := hA3.setCell (.inl (by show w.heap.size ≤ n4; omega)) _
      have x0n : (w3.setCell ⟨n4, 0, none⟩ (.int .i64 2)).cell? ⟨n4, 0, none⟩ = some (.int .i64 2) := hW.new_ 0 _ rfl
      replace q0 := (hW.agr.cell (b := w.heap.size) (by omega) (by omega) 0).trans q0
      replace f0 := (hW.frozen ⟨w.heap.size, 0, none⟩).trans f0
      replace y0 := (hW.frozen ⟨n4, 0, none⟩).trans y0
      replace q1 := (hW.agr.cell (b := w.heap.size) (by omega) (by omega) 1).trans q1
      replace f1 := (hW.frozen ⟨w.heap.size, 1, none⟩).trans f1
      replace x1 := (hW.old_ 1 (by simp)).trans x1
      replace y1 := (hW.frozen ⟨n4, 1, none⟩).trans y1
      replace q2 := (hW.agr.cell (b := w.heap.size) (by omega) (by omega) 2).trans q2
      replace f2 := (hW.frozen ⟨w.heap.size, 2, none⟩).trans f2
      replace x2 := (hW.old_ 2 (by simp)).trans x2
      replace y2 := (hW.frozen ⟨n4, 2, none⟩).trans y2
      replace q3 := (hW.agr.cell (b := w.heap.size) (by omega) (by omega) 3).trans q3
      replace f3 := (hW.frozen ⟨w.heap.size, 3, none⟩).trans f3
      replace x3 := (hW.old_ 3 (by simp)).trans x3
      replace y3 := (hW.frozen ⟨n4, 3, none⟩).trans y3
      replace q4 := (hW.agr.cell (b := w.heap.size) (by omega) (by omega) 4).trans q4
      replace f4 := (hW.frozen ⟨w.heap.size, 4, none⟩).trans f4
      replace x4 := (hW.old_ 4 (by simp)).trans x4
      replace y4 := (hW.frozen ⟨n4, 4, none⟩).trans y4
      replace x0 := x0n
      have hsa : n4 < (w3.setCell ⟨n4, 0, none⟩ (.int .i64 2)).heap.size := by simpa using hs3
      have hsb : w.heap.size < (w3.setCell ⟨n4, 0, none⟩ (.int .i64 2)).heap.size := by simpa using hs3'
      clear hW x0n hR3 hA3
      refine (spec_pickI 4 4 B R (m + 3) _ rfl (by omega) (by omega) (by omega) hRs).mono ?_
      rintro e w5 ⟨k5, rfl, hk5, hR5, hB5⟩
      replace q0 := (hB5.cell hsb hne 0).trans q0
      replace f0 := (hB5.fz hsb hne 0).trans f0
      replace x0 := (hB5.cell hsa hne4 0).trans x0
      replace y0 := (hB5.fz hsa hne4 0).trans y0
      replace q1 := (hB5.cell hsb hne 1).trans q1
      replace f1 := (hB5.fz hsb hne 1).trans f1
      replace x1 := (hB5.cell hsa hne4 1).trans x1
      replace y1 := (hB5.fz hsa hne4 1).trans y1
      replace q2 := (hB5.cell hsb hne 2).trans q2
      replace f2 := (hB5.fz hsb hne 2).trans f2
      replace x2 := (hB5.cell hsa hne4 2).trans x2
      replace y2 := (hB5.fz hsa hne4 2).trans y2
      replace q3 := (hB5.cell hsb hne 3).trans q3
      replace f3 := (hB5.fz hsb hne 3).trans f3
      replace x3 := (hB5.cell hsa hne4 3).trans x3
      replace y3 := (hB5.fz hsa hne4 3).trans y3
      replace q4 := (hB5.cell hsb hne 4).trans q4
      replace f4 := (hB5.fz hsb hne 4).trans f4
      replace x4 := (hB5.cell hsa hne4 4).trans x4
      replace y4 := (hB5.fz hsa hne4 4).trans y4
      have hA5 := hAs.trans hB5 (fun _ _ h => h)
      have hs5 : n4 < w5.heap.size := Nat.lt_of_lt_of_le hsa hB5.size
      have hs5' : w.heap.size < w5.heap.size := by omega
      clear hB5 hAs hRs
      by_cases h5 : k5 = 0
      · have t5 : ((k5 : Int) == 0) = true := by subst h5; rfl
        clear h5
        go_wp2_with fail
        refine (spec_pickI 5 5 B R (m + 4) _ rfl (by omega) (by omega) (by omega) hR5).mono ?_
        rintro e w6 ⟨k6, rfl, hk6, hR6, hB6⟩
        replace q0 := (hB6.cell hs5' hne 0).trans q0
        replace f0 := (hB6.fz hs5' hne 0).trans f0
        replace x0 := (hB6.cell hs5 hne4 0).trans x0
        replace y0 := (hB6.fz hs5 hne4 0).trans y0
        replace q1 := (hB6.cell hs5' hne 1).trans q1
        replace f1 := (hB6.fz hs5' hne 1).trans f1
        replace x1 := (hB6.cell hs5 hne4 1).trans x1
        replace y1 := (hB6.fz hs5 hne4 1).trans y1
        replace q2 := (hB6.cell hs5' hne 2).trans q2
        replace f2 := (hB6.fz hs5' hne 2).trans f2
        replace x2 := (hB6.cell hs5 hne4 2).trans x2
        replace y2 := (hB6.fz hs5 hne4 2).trans y2
        replace q3 := (hB6.cell hs5' hne 3).trans q3
        replace f3 := (hB6.fz hs5' hne 3).trans f3
        replace x3 := (hB6.cell hs5 hne4 3).trans x3
        replace y3 := (hB6.fz hs5 hne4 3).trans y3
        replace q4 := (hB6.cell hs5' hne 4).trans q4
        replace f4 := (hB6.fz hs5' hne 4).trans f4
        replace x4 := (hB6.cell hs5 hne4 4).trans x4
        replace y4 := (hB6.fz hs5 hne4 4).trans y4
        have hA6 := hA5.trans hB6 (fun _ _ h => h)
        have hs6a : n4 < w6.heap.size := Nat.lt_of_lt_of_le hs5 hB6.size
        have hs6b : w.heap.size < w6.heap.size := by omega
        go_wp2_with fail
        have hW := wrote_one x3 (.int .i64 k6)
        have hR6s : Rd (w6.setCell ⟨n4, 3, none⟩ (.int .i64 k6)) B R (m + 5) := hR6.agr hW.agr (by omega) (fun b hb e => by have := hR6.le; omega)
        have hA6s : Agr (· = R) w (w6.setCell ⟨n4, 3, none⟩ (.int .i64 k6)) := hA6.setCell (.inl (by show w.heap.size ≤ n4; omega)) _
        have x3n : (w6.setCell ⟨n4, 3, none⟩ (.int .i64 k6)).cell? ⟨n4, 3, none⟩ = some (.int .i64 k6) := hW.new_ 0 _ rfl
        replace q0 := (hW.agr.cell (b := w.heap.size) (by omega) (by omega) 0).trans q0
        replace f0 := (hW.frozen ⟨w.heap.size, 0, none⟩).trans f0
        replace x0 := (hW.old_ 0 (by simp)).trans x0
        replace y0 := (hW.frozen ⟨n4, 0, none⟩).trans y0
        replace q1 := (hW.agr.cell (b := w.heap.size) (by omega) (by omega) 1).trans q1
        replace f1 := (hW.frozen ⟨w.heap.size, 1, none⟩).trans f1
        replace x1 := (hW.old_ 1 (by simp)).trans x1
        replace y1 := (hW.frozen ⟨n4, 1, none⟩).trans y1
        replace q2 := (hW.agr.cell (b := w.heap.size) (by omega) (by omega) 2).trans q2
        replace f2 := (hW.frozen ⟨w.heap.size, 2, none⟩).trans f2
        replace x2 := (hW.old_ 2 (by simp)).trans x2
        replace y2 := (hW.frozen ⟨n4, 2, none⟩).trans y2
        replace q3 := (hW.agr.cell (b := w.heap.size) (by omega) (by omega) 3).trans q3
        replace f3 := (hW.frozen ⟨w.heap.size, 3, none⟩).trans f3
        replace y3 := (hW.frozen ⟨n4, 3, none⟩).trans y3
        replace q4 := (hW.agr.cell (b := w.heap.size) (by omega) (by omega) 4).trans q4
        replace f4 := (hW.frozen ⟨w.heap.size, 4, none⟩).trans f4
        replace x4 := (hW.old_ 4 (by simp)).trans x4
        replace y4 := (hW.frozen ⟨n4, 4, none⟩).trans y4
        replace x3 := x3n
        have hs7 : n4 < (w6.setCell ⟨n4, 3, none⟩ (.int .i64 k6)).heap.size := by simpa using hs6a
        have hs7' : w.heap.size < (w6.setCell ⟨n4, 3, none⟩ (.int .i64 k6)).heap.size := by simpa using hs6b
        clear hW x3n hB6 hR6 hA6 hA5 hR5
        refine (spec_pickI 3 3 B R (m + 5) _ rfl (by omega) (by omega) (by omega) hR6s).mono ?_
        rintro e w7 ⟨k7, rfl, hk7, hR7, hB7⟩
        replace q0 := (hB7.cell hs7' hne 0).trans q0
        replace f0 := (hB7.fz hs7' hne 0).trans f0
        replace x0 := (hB7.cell hs7 hne4 0).trans x0
        replace y0 := (hB7.fz hs7 hne4 0).trans y0
        replace q1 := (hB7.cell hs7' hne 1).trans q1
        replace f1 := (hB7.fz hs7' hne 1).trans f1
        replace x1 := (hB7.cell hs7 hne4 1).trans x1
        replace y1 := (hB7.fz hs7 hne4 1).trans y1
        replace q2 := (hB7.cell hs7' hne 2).trans q2
        replace f2 := (hB7.fz hs7' hne 2).trans f2
        replace x2 := (hB7.cell hs7 hne4 2).trans x2
        replace y2 := (hB7.fz hs7 hne4 2).trans y2
        replace q3 := (hB7.cell hs7' hne 3).trans q3
        replace f3 := (hB7.fz hs7' hne 3).trans f3
        replace x3 := (hB7.cell hs7 hne4 3).trans x3
        replace y3 := (hB7.fz hs7 hne4 3).trans y3
        replace q4 := (hB7.cell hs7' hne 4).trans q4
        replace f4 := (hB7.fz hs7' hne 4).trans f4
        replace x4 := (hB7.cell hs7 hne4 4).trans x4
        replace y4 := (hB7.fz hs7 hne4 4).trans y4
        have hA7 := hA6s.trans hB7 (fun _ _ h => h)
        have hs7a : n4 < w7.heap.size := Nat.lt_of_lt_of_le hs7 hB7.size
        have hs7b : w.heap.size < w7.heap.size := by omega
        clear hB7 hR6s hA6s hs7 hs7'
        go_wp2
        refine bodyPost_ret (v := .agg #[.int .i64 (2), .int .i64 (1 + (k1 : Int)), .int .i64 ((k2 : Int)), .int .i64 ((k6 : Int)), .bool (decide ((0 : Int) < k7))]) (by simp [results, Try.results36, go_sem, q0, q1, q2, q3, q4]) rfl ⟨⟨2, 1 + (k1 : Int), (k2 : Int), (k6 : Int), decide ((0 : Int) < k7)⟩, rfl, ⟨⟨by dsimp only; omega, by dsimp only; omega⟩, ⟨by dsimp only; omega, by dsimp only; omega⟩, ⟨by dsimp only; omega, by dsimp only; omega⟩, ⟨by dsimp only; omega, by dsimp only; omega⟩⟩, ?_, ?_⟩
        · refine (Rd.high (L := w.heap.size) hR7 ?_ hRl).mono (by omega)
          repeat (with_reducible refine Agr.setCell ?_ (.inr (by first | exact Nat.le_refl _ | (show w.heap.size ≤ n4; omega))) _)
          with_reducible exact Agr.refl _ _
        · repeat (with_reducible refine Agr.setCell ?_ (.inl (by first | exact Nat.le_refl _ | (show w.heap.size ≤ n4; omega))) _)
          with_reducible exact hA7
      · have t5 : ((k5 : Int) == 0) = false := by rw [beq_eq_false_iff_ne]; omega
        clear h5
        go_wp2
        refine bodyPost_ret (v := .agg #[.int .i64 (2), .int .i64 (1 + (k1 : Int)), .int .i64 ((k2 : Int)), .int .i64 (9), .bool (false)]) (by simp [results, Try.results36, go_sem, q0, q1, q2, q3, q4]) rfl ⟨⟨2, 1 + (k1 : Int), (k2 : Int), 9, false⟩, rfl, ⟨⟨by dsimp only; omega, by dsimp only; omega⟩, ⟨by dsimp only; omega, by dsimp only; omega⟩, ⟨by dsimp only; omega, by dsimp only; omega⟩, ⟨by dsimp only; omega, by dsimp only; omega⟩⟩, ?_, ?_⟩
        · refine (Rd.high (L := w.heap.size) hR5 ?_ hRl).mono (by omega)
          repeat (with_reducible refine Agr.setCell ?_ (.inr (by first | exact Nat.le_refl _ | (show w.heap.size ≤ n4; omega))) _)
          with_reducible exact Agr.refl _ _
        · repeat (with_reducible refine Agr.setCell ?_ (.inl (by first | exact Nat.le_refl _ | (show w.heap.size ≤ n4; omega))) _)
          with_reducible exact hA5

    · clear hk3
      go_wp2_with fail
      have hW := wrote_one x0 (.int .i64 2)
      have hRs : Rd (w3.setCell ⟨n4, 0, none⟩ (.int .i64 2)) B R (m + 3) := hR3.agr hW.agr (by omega) (fun b hb e => by have := hR3.le; omega)
      have hAs : Agr (· = R) w (w3.setCell ⟨n4, 0, none⟩ (.int .i64 2)) := hA3.setCell (.inl (by show w.heap.size ≤ n4; omega)) _
      have x0n : (w3.setCell ⟨n4, 0, none⟩ (.int .i64 2)).cell? ⟨n4, 0, none⟩ = some (.int .i64 2) := hW.new_ 0 _ rfl
      replace q0 := (hW.agr.cell (b := w.heap.size) (by omega) (by omega) 0).trans q0
      replace f0 := (hW.frozen ⟨w.heap.size, 0, none⟩).trans f0
      replace y0 := (hW.frozen ⟨n4, 0, none⟩).trans y0
      replace q1 := (hW.agr.cell (b := w.heap.size) (by omega) (by omega) 1).trans q1
      replace f1 := (hW.frozen ⟨w.heap.size, 1, none⟩).trans f1
      replace x1 := (hW.old_ 1 (by simp)).trans x1
      replace y1 := (hW.frozen ⟨n4, 1, none⟩).trans y1
      replace q2 := (hW.agr.cell (b := w.heap.size) (by omega) (by omega) 2).trans q2
      replace f2 := (hW.frozen ⟨w.heap.size, 2, none⟩).trans f2
      replace x2 := (hW.old_ 2 (by simp)).trans x2
      replace y2 := (hW.frozen ⟨n4, 2, none⟩).trans y2
      replace q3 := (hW.agr.cell (b := w.heap.size) (by omega) (by omega) 3).trans q3
      replace f3 := (hW.frozen ⟨w.heap.size, 3, none⟩).trans f3
      replace x3 := (hW.old_ 3 (by simp)).trans x3
      replace y3 := (hW.frozen ⟨n4, 3, none⟩).trans y3
      replace q4 := (hW.agr.cell (b := w.heap.size) (by omega) (by omega) 4).trans q4
      replace f4 := (hW.frozen ⟨w.heap.size, 4, none⟩).trans f4
      replace x4 := (hW.old_ 4 (by simp)).trans x4
      replace y4 := (hW.frozen ⟨n4, 4, none⟩).trans y4
      replace x0 := x0n
      have hsa : n4 < (w3.setCell ⟨n4, 0, none⟩ (.int .i64 2)).heap.size := by simpa using hs3
      have hsb : w.heap.size < (w3.setCell ⟨n4, 0, none⟩ (.int .i64 2)).heap.size := by simpa using hs3'
      clear hW x0n hR3 hA3
      refine (spec_pickI 4 4 B R (m + 3) _ rfl (by omega) (by omega) (by omega) hRs).mono ?_
      rintro e w5 ⟨k5, rfl, hk5, hR5, hB5⟩
      replace q0 := (hB5.cell hsb hne 0).trans q0
      replace f0 := (hB5.fz hsb hne 0).trans f0
      replace x0 := (hB5.cell hsa hne4 0).trans x0
      replace y0 := (hB5.fz hsa hne4 0).trans y0
      replace q1 := (hB5.cell hsb hne 1).trans q1
      replace f1 := (hB5.fz hsb hne 1).trans f1
      replace x1 := (hB5.cell hsa hne4 1).trans x1
      replace y1 := (hB5.fz hsa hne4 1).trans y1
      replace q2 := (hB5.cell hsb hne 2).trans q2
      replace f2 := (hB5.fz hsb hne 2).trans f2
      replace x2 := (hB5.cell hsa hne4 2).trans x2
      replace y2 := (hB5.fz hsa hne4 2).trans y2
      replace q3 := (hB5.cell hsb hne 3).trans q3
      replace f3 := (hB5.fz hsb hne 3).trans f3
      replace x3 := (hB5.cell hsa hne4 3).trans x3
      replace y3 := (hB5.fz hsa hne4 3).trans y3
      replace q4 := (hB5.cell hsb hne 4).trans q4
      replace f4 := (hB5.fz hsb hne 4).trans f4
      replace x4 := (hB5.cell hsa hne4 4).trans x4
      replace y4 := (hB5.fz hsa hne4 4).trans y4
      have hA5 := hAs.trans hB5 (fun _ _ h => h)
      have hs5 : n4 < w5.heap.size := Nat.lt_of_lt_of_le hsa hB5.size
      have hs5' : w.heap.size < w5.heap.size := by omega
      clear hB5 hAs hRs
      by_cases h5 : k5 = 0
      · have t5 : ((k5 : Int) == 0) = true := by subst h5; rfl
        clear h5
        go_wp2_with fail
        refine (spec_pickI 5 5 B R (m + 4) _ rfl (by omega) (by omega) (by omega) hR5).mono ?_
        rintro e w6 ⟨k6, rfl, hk6, hR6, hB6⟩
        replace q0 := (hB6.cell hs5' hne 0).trans q0
        replace f0 := (hB6.fz hs5' hne 0).trans f0
        replace x0 := (hB6.cell hs5 hne4 0).trans x0
        replace y0 := (hB6.fz hs5 hne4 0).trans y0
        replace q1 := (hB6.cell hs5' hne 1).trans q1
        replace f1 := (hB6.fz hs5' hne 1).trans f1
        replace x1 := (hB6.cell hs5 hne4 1).trans x1
        replace y1 := (hB6.fz hs5 hne4 1).trans y1
        replace q2 := (hB6.cell hs5' hne 2).trans q2
        replace f2 := (hB6.fz hs5' hne 2).trans f2
        replace x2 := (hB6.cell hs5 hne4 2).trans x2
        replace y2 := (hB6.fz hs5 hne4 2).trans y2
        replace q3 := (hB6.cell hs5' hne 3).trans q3
        replace f3 := (hB6.fz hs5' hne 3).trans f3
        replace x3 := (hB6.cell hs5 hne4 3).trans x3
        replace y3 := (hB6.fz hs5 hne4 3).trans y3
        replace q4 := (hB6.cell hs5' hne 4).trans q4
        replace f4 := (hB6.fz hs5' hne 4).trans f4
        replace x4 := (hB6.cell hs5 hne4 4).trans x4
        replace y4 := (hB6.fz hs5 hne4 4).trans y4
        have hA6 := hA5.trans hB6 (fun _ _ h => h)
        have hs6a : n4 < w6.heap.size := Nat.lt_of_lt_of_le hs5 hB6.size
        have hs6b : w.heap.size < w6.heap.size := by omega
        go_wp2_with fail
        have hW := wrote_one x3 (.int .i64 k6)
        have hR6s : Rd (w6.setCell ⟨n4, 3, none⟩ (.int .i64 k6)) B R (m + 5) := hR6.agr hW.agr (by omega) (fun b hb e => by have := hR6.le; omega)
        have hA6s : Agr (· = R) w (w6.setCell ⟨n4, 3, none⟩ (.int .i64 k6)) := hA6.setCell (.inl (by show w.heap.size ≤ n4; omega)) _
        have x3n : (w6.setCell ⟨n4, 3, none⟩ (.int .i64 k6)).cell? ⟨n4, 3, none⟩ = some (.int .i64 k6) := hW.new_ 0 _ rfl
        replace q0 := (hW.agr.cell (b := w.heap.size) (by omega) (by omega) 0).trans q0
        replace f0 := (hW.frozen ⟨w.heap.size, 0, none⟩).trans f0
        replace x0 := (hW.old_ 0 (by simp)).trans x0
        replace y0 := (hW.frozen ⟨n4, 0, none⟩).trans y0
        replace q1 := (hW.agr.cell (b := w.heap.size) (by omega) (by omega) 1).trans q1
        replace f1 := (hW.frozen ⟨w.heap.size, 1, none⟩).trans f1
        replace x1 := (hW.old_ 1 (by simp)).trans x1
        replace y1 := (hW.frozen ⟨n4, 1, none⟩).trans y1
        replace q2 := (hW.agr.cell (b := w.heap.size) (by omega) (by omega) 2).trans q2
        replace f2 := (hW.frozen ⟨w.heap.size, 2, none⟩).trans f2
        replace x2 := (hW.old_ 2 (by simp)).trans x2
        replace y2 := (hW.frozen ⟨n4, 2, none⟩).trans y2
        replace q3 := (hW.agr.cell (b := w.heap.size) (by omega) (by omega) 3).trans q3
        replace f3 := (hW.frozen ⟨w.heap.size, 3, none⟩).trans f3
        replace y3 := (hW.frozen ⟨n4, 3, none⟩).trans y3
        replace q4 := (hW.agr.cell (b := w.heap.size) (by omega) (by omega) 4).trans q4
        replace f4 := (hW.frozen ⟨w.heap.size, 4, none⟩).trans f4
        replace x4 := (hW.old_ 4 (by simp)).trans x4
        replace y4 := (hW.frozen ⟨n4, 4, none⟩).trans y4
        replace x3 := x3n
        have hs7 : n4 < (w6.setCell ⟨n4, 3, none⟩ (.int .i64 k6)).heap.size := by simpa using hs6a
        have hs7' : w.heap.size < (w6.setCell ⟨n4, 3, none⟩ (.int .i64 k6)).heap.size := by simpa using hs6b
        clear hW x3n hB6 hR6 hA6 hA5 hR5
        refine (spec_pickI 3 3 B R (m + 5) _ rfl (by omega) (by omega) (by omega) hR6s).mono ?_
        rintro e w7 ⟨k7, rfl, hk7, hR7, hB7⟩
        replace q0 := (hB7.cell hs7' hne 0).trans q0
        replace f0 := (hB7.fz hs7' hne 0).trans f0
        replace x0 := (hB7.cell hs7 hne4 0).trans x0
        replace y0 := (hB7.fz hs7 hne4 0).trans y0
        replace q1 := (hB7.cell hs7' hne 1).trans q1
        replace f1 := (hB7.fz hs7' hne 1).trans f1
        replace x1 := (hB7.cell hs7 hne4 1).trans x1
        replace y1 := (hB7.fz hs7 hne4 1).trans y1
        replace q2 := (hB7.cell hs7' hne 2).trans q2
        replace f2 := (hB7.fz hs7' hne 2).trans f2
        replace x2 := (hB7.cell hs7 hne4 2).trans x2
        replace y2 := (hB7.fz hs7 hne4 2).trans y2
        replace q3 := (hB7.cell hs7' hne 3).trans q3
        replace f3 := (hB7.fz hs7' hne 3).trans f3
        replace x3 := (hB7.cell hs7 hne4 3).trans x3
        replace y3 := (hB7.fz hs7 hne4 3).trans y3
        replace q4 := (hB7.cell hs7' hne 4).trans q4
        replace f4 := (hB7.fz hs7' hne 4).trans f4
        replace x4 := (hB7.cell hs7 hne4 4).trans x4
        replace y4 := (hB7.fz hs7 hne4 4).trans y4
        have hA7 := hA6s.trans hB7 (fun _ _ h => h)
        have hs7a : n4 < w7.heap.size := Nat.lt_of_lt_of_le hs7 hB7.size
        have hs7b : w.heap.size < w7.heap.size := by omega
        clear hB7 hR6s hA6s hs7 hs7'
        go_wp2
        refine bodyPost_ret (v := .agg #[.int .i64 (2), .int .i64 (1 + (k1 : Int)), .int .i64 ((k2 : Int)), .int .i64 ((k6 : Int)), .bool (decide ((0 : Int) < k7))]) (by simp [results, Try.results36, go_sem, q0, q1, q2, q3, q4]) rfl ⟨⟨2, 1 + (k1 : Int), (k2 : Int), (k6 : Int), decide ((0 : Int) < k7)⟩, rfl, ⟨⟨by dsimp only; omega, by dsimp only; omega⟩, ⟨by dsimp only; omega, by dsimp only; omega⟩, ⟨by dsimp only; omega, by dsimp only; omega⟩, ⟨by dsimp only; omega, by dsimp only; omega⟩⟩, ?_, ?_⟩
        · refine (Rd.high (L := w.heap.size) hR7 ?_ hRl).mono (by omega)
          repeat (with_reducible refine Agr.setCell ?_ (.inr (by first | exact Nat.le_refl _ | (show w.heap.size ≤ n4; omega))) _)
          with_reducible exact Agr.refl _ _
        · repeat (with_reducible refine Agr.setCell ?_ (.inl (by first | exact Nat.le_refl _ | (show w.heap.size ≤ n4; omega))) _)
          with_reducible exact hA7
      · have t5 : ((k5 : Int) == 0) = false := by rw [beq_eq_false_iff_ne]; omega
        clear h5
        go_wp2
        refine bodyPost_ret (v := .agg #[.int .i64 (2), .int .i64 (1 + (k1 : Int)), .int .i64 ((k2 : Int)), .int .i64 (9), .bool (false)]) (by simp [results, Try.results36, go_sem, q0, q1, q2, q3, q4]) rfl ⟨⟨2, 1 + (k1 : Int), (k2 : Int), 9, false⟩, rfl, ⟨⟨by dsimp only; omega, by dsimp only; omega⟩, ⟨by dsimp only; omega, by dsimp only; omega⟩, ⟨by dsimp only; omega, by dsimp only; omega⟩, ⟨by dsimp only; omega, by dsimp only; omega⟩⟩, ?_, ?_⟩
        · refine (Rd.high (L := w.heap.size) hR5 ?_ hRl).mono (by omega)
          repeat (with_reducible refine Agr.setCell ?_ (.inr (by first | exact Nat.le_refl _ | (show w.heap.size ≤ n4; omega))) _)
          with_reducible exact Agr.refl _ _
        · repeat (with_reducible refine Agr.setCell ?_ (.inl (by first | exact Nat.le_refl _ | (show w.heap.size ≤ n4; omega))) _)
          with_reducible exact hA5

    · clear hk3
      go_wp2_with fail
      have hW := wrote_one x0 (.int .i64 2)
      have hRs : Rd (w3.setCell ⟨n4, 0, none⟩ (.int .i64 2)) B R (m + 3) := hR3.agr hW.agr (by omega) (fun b hb e => by have := hR3.le; omega)
      have hAs : Agr (· = R) w (w3.setCell ⟨n4, 0, none⟩ (.int .i64 2)) := hA3.setCell (.inl (by show w.heap.size ≤ n4; omega)) _
      have x0n : (w3.setCell ⟨n4, 0, none⟩ (.int .i64 2)).cell? ⟨n4, 0, none⟩ = some (.int .i64 2) := hW.new_ 0 _ rfl
      replace q0 := (hW.agr.cell (b := w.heap.size) (by omega) (by omega) 0).trans q0
      replace f0 := (hW.frozen ⟨w.heap.size, 0, none⟩).trans f0
      replace y0 := (hW.frozen ⟨n4, 0, none⟩).trans y0
      replace q1 := (hW.agr.cell (b := w.heap.size) (by omega) (by omega) 1).trans q1
      replace f1 := (hW.frozen ⟨w.heap.size, 1, none⟩).trans f1
      replace x1 := (hW.old_ 1 (by simp)).trans x1
      replace y1 := (hW.frozen ⟨n4, 1, none⟩).trans y1
      replace q2 := (hW.agr.cell (b := w.heap.size) (by omega) (by omega) 2).trans q2
      replace f2 := (hW.frozen ⟨w.heap.size, 2, none⟩).trans f2
      replace x2 := (hW.old_ 2 (by simp)).trans x2
      replace y2 := (hW.frozen ⟨n4, 2, none⟩).trans y2
      replace q3 := (hW.agr.cell (b := w.heap.size) (by omega) (by omega) 3).trans q3
      replace f3 := (hW.frozen ⟨w.heap.size, 3, none⟩).trans f3
      replace x3 := (hW.old_ 3 (by simp)).trans x3
      replace y3 := (hW.frozen ⟨n4, 3, none⟩).trans y3
      replace q4 := (hW.agr.cell (b := w.heap.size) (by omega) (by omega) 4).trans q4
      replace f4 := (hW.frozen ⟨w.heap.size, 4, none⟩).trans f4
      replace x4 := (hW.old_ 4 (by simp)).trans x4
      replace y4 := (hW.frozen ⟨n4, 4, none⟩).trans y4
      replace x0 := x0n
      have hsa : n4 < (w3.setCell ⟨n4, 0, none⟩ (.int .i64 2)).heap.size := by simpa using hs3
      have hsb : w.heap.size < (w3.setCell ⟨n4, 0, none⟩ (.int .i64 2)).heap.size := by simpa using hs3'
      clear hW x0n hR3 hA3
      refine (spec_pickI 4 4 B R (m + 3) _ rfl (by omega) (by omega) (by omega) hRs).mono ?_
      rintro e w5 ⟨k5, rfl, hk5, hR5, hB5⟩
      replace q0 := (hB5.cell hsb hne 0).trans q0
      replace f0 := (hB5.fz hsb hne 0).trans f0
      replace x0 := (hB5.cell hsa hne4 0).trans x0
      replace y0 := (hB5.fz hsa hne4 0).trans y0
      replace q1 := (hB5.cell hsb hne 1).trans q1
      replace f1 := (hB5.fz hsb hne 1).trans f1
      replace x1 := (hB5.cell hsa hne4 1).trans x1
      replace y1 := (hB5.fz hsa hne4 1).trans y1
      replace q2 := (hB5.cell hsb hne 2).trans q2
      replace f2 := (hB5.fz hsb hne 2).trans f2
      replace x2 := (hB5.cell hsa hne4 2).trans x2
      replace y2 := (hB5.fz hsa hne4 2).trans y2
      replace q3 := (hB5.cell hsb hne 3).trans q3
      replace f3 := (hB5.fz hsb hne 3).trans f3
      replace x3 := (hB5.cell hsa hne4 3).trans x3
      replace y3 := (hB5.fz hsa hne4 3).trans y3
      replace q4 := (hB5.cell hsb hne 4).trans q4
      replace f4 := (hB5.fz hsb hne 4).trans f4
      replace x4 := (hB5.cell hsa hne4 4).trans x4
      replace y4 := (hB5.fz hsa hne4 4).trans y4
      have hA5 := hAs.trans hB5 (fun _ _ h => h)
      have hs5 : n4 < w5.heap.size := Nat.lt_of_lt_of_le hsa hB5.size
      have hs5' : w.heap.size < w5.heap.size := by omega
      clear hB5 hAs hRs
      by_cases h5 : k5 = 0
      · have t5 : ((k5 : Int) == 0) = true := by subst h5; rfl
        clear h5
        go_wp2_with fail
        refine (spec_pickI 5 5 B R (m + 4) _ rfl (by omega) (by omega) (by omega) hR5).mono ?_
        rintro e w6 ⟨k6, rfl, hk6, hR6, hB6⟩
        replace q0 := (hB6.cell hs5' hne 0).trans q0
        replace f0 := (hB6.fz hs5' hne 0).trans f0
        replace x0 := (hB6.cell hs5 hne4 0).trans x0
        replace y0 := (hB6.fz hs5 hne4 0).trans y0
        replace q1 := (hB6.cell hs5' hne 1).trans q1
        replace f1 := (hB6.fz hs5' hne 1).trans f1
        replace x1 := (hB6.cell hs5 hne4 1).trans x1
        replace y1 := (hB6.fz hs5 hne4 1).trans y1
        replace q2 := (hB6.cell hs5' hne 2).trans q2
        replace f2 := (hB6.fz hs5' hne 2).trans f2
        replace x2 := (hB6.cell hs5 hne4 2).trans x2
        replace y2 := (hB6.fz hs5 hne4 2).trans y2
        replace q3 := (hB6.cell hs5' hne 3).trans q3
        replace f3 := (hB6.fz hs5' hne 3).trans f3
        replace x3 := (hB6.cell hs5 hne4 3).trans x3
        replace y3 := (hB6.fz hs5 hne4 3).trans y3
        replace q4 := (hB6.cell hs5' hne 4).trans q4
        replace f4 := (hB6.fz hs5' hne 4).trans f4
        replace x4 := (hB6.cell hs5 hne4 4).trans x4
        replace y4 := (hB6.fz hs5 hne4 4).trans y4
        have hA6 := hA5.trans hB6 (fun _ _ h => h)
        have hs6a : n4 < w6.heap.size := Nat.lt_of_lt_of_le hs5 hB6.size
        have hs6b : w.heap.size < w6.heap.size := by omega
        go_wp2_with fail
        have hW := wrote_one x3 (.int .i64 k6)
        have hR6s : Rd (w6.setCell ⟨n4, 3, none⟩ (.int .i64 k6)) B R (m + 5) := hR6.agr hW.agr (by omega) (fun b hb e => by have := hR6.le; omega)
        have hA6s : Agr (· = R) w (w6.setCell ⟨n4, 3, none⟩ (.int .i64 k6)) := hA6.setCell (.inl (by show w.heap.size ≤ n4; omega)) _
        have x3n : (w6.setCell ⟨n4, 3, none⟩ (.int .i64 k6)).cell? ⟨n4, 3, none⟩ = some (.int .i64 k6) := hW.new_ 0 _ rfl
        replace q0 := (hW.agr.cell (b := w.heap.size) (by omega) (by omega) 0).trans q0
        replace f0 := (hW.frozen ⟨w.heap.size, 0, none⟩).trans f0
        replace x0 := (hW.old_ 0 (by simp)).trans x0
        replace y0 := (hW.frozen ⟨n4, 0, none⟩).trans y0
        replace q1 := (hW.agr.cell (b := w.heap.size) (by omega) (by omega) 1).trans q1
        replace f1 := (hW.frozen ⟨w.heap.size, 1, none⟩).trans f1
        replace x1 := (hW.old_ 1 (by simp)).trans x1
        replace y1 := (hW.frozen ⟨n4, 1, none⟩).trans y1
        replace q2 := (hW.agr.cell (b := w.heap.size) (by omega) (by omega) 2).trans q2
        replace f2 := (hW.frozen ⟨w.heap.size, 2, none⟩).trans f2
        replace x2 := (hW.old_ 2 (by simp)).trans x2
        replace y2 := (hW.frozen ⟨n4, 2, none⟩).trans y2
        replace q3 := (hW.agr.cell (b := w.heap.size) (by omega) (by omega) 3).trans q3
        replace f3 := (hW.frozen ⟨w.heap.size, 3, none⟩).trans f3
        replace y3 := (hW.frozen ⟨n4, 3, none⟩).trans y3
        replace q4 := (hW.agr.cell (b := w.heap.size) (by omega) (by omega) 4).trans q4
        replace f4 := (hW.frozen ⟨w.heap.size, 4, none⟩).trans f4
        replace x4 := (hW.old_ 4 (by simp)).trans x4
        replace y4 := (hW.frozen ⟨n4, 4, none⟩).trans y4
        replace x3 := x3n
        have hs7 : n4 < (w6.setCell ⟨n4, 3, none⟩ (.int .i64 k6)).heap.size := by simpa using hs6a
        have hs7' : w.heap.size < (w6.setCell ⟨n4, 3, none⟩ (.int .i64 k6)).heap.size := by simpa using hs6b
        clear hW x3n hB6 hR6 hA6 hA5 hR5
        refine (spec_pickI 3 3 B R (m + 5) _ rfl (by omega) (by omega) (by omega) hR6s).mono ?_
        rintro e w7 ⟨k7, rfl, hk7, hR7, hB7⟩
        replace q0 := (hB7.cell hs7' hne 0).trans q0
        replace f0 := (hB7.fz hs7' hne 0).trans f0
        replace x0 := (hB7.cell hs7 hne4 0).trans x0
        replace y0 := (hB7.fz hs7 hne4 0).trans y0
        replace q1 := (hB7.cell hs7' hne 1).trans q1
        replace f1 := (hB7.fz hs7' hne 1).trans f1
        replace x1 := (hB7.cell hs7 hne4 1).trans x1
        replace y1 := (hB7.fz hs7 hne4 1).trans y1
        replace q2 := (hB7.cell hs7' hne 2).trans q2
        replace f2 := (hB7.fz hs7' hne 2).trans f2
        replace x2 := (hB7.cell hs7 hne4 2).trans x2
        replace y2 := (hB7.fz hs7 hne4 2).trans y2
        replace q3 := (hB7.cell hs7' hne 3).trans q3
        replace f3 := (hB7.fz hs7' hne 3).trans f3
        replace x3 := (hB7.cell hs7 hne4 3).trans x3
        replace y3 := (hB7.fz hs7 hne4 3).trans y3
        replace q4 := (hB7.cell hs7' hne 4).trans q4
        replace f4 := (hB7.fz hs7' hne 4).trans f4
        replace x4 := (hB7.cell hs7 hne4 4).trans x4
        replace y4 := (hB7.fz hs7 hne4 4).trans y4
        have hA7 := hA6s.trans hB7 (fun _ _ h => h)
        have hs7a : n4 < w7.heap.size := Nat.lt_of_lt_of_le hs7 hB7.size
        have hs7b : w.heap.size < w7.heap.size := by omega
        clear hB7 hR6s hA6s hs7 hs7'
        go_wp2
        refine bodyPost_ret (v := .agg #[.int .i64 (2), .int .i64 (1 + (k1 : Int)), .int .i64 ((k2 : Int)), .int .i64 ((k6 : Int)), .bool (decide ((0 : Int) < k7))]) (by simp [results, Try.results36, go_sem, q0, q1, q2, q3, q4]) rfl ⟨⟨2, 1 + (k1 : Int), (k2 : Int), (k6 : Int), decide ((0 : Int) < k7)⟩, rfl, ⟨⟨by dsimp only; omega, by dsimp only; omega⟩, ⟨by dsimp only; omega, by dsimp only; omega⟩, ⟨by dsimp only; omega, by dsimp only; omega⟩, ⟨by dsimp only; omega, by dsimp only; omega⟩⟩, ?_, ?_⟩
        · refine (Rd.high (L := w.heap.size) hR7 ?_ hRl).mono (by omega)
          repeat (with_reducible refine Agr.setCell ?_ (.inr (by first | exact Nat.le_refl _ | (show w.heap.size ≤ n4; omega))) _)
          with_reducible exact Agr.refl _ _
        · repeat (with_reducible refine Agr.setCell ?_ (.inl (by first | exact Nat.le_refl _ | (show w.heap.size ≤ n4; omega))) _)
          with_reducible exact hA7
      · have t5 : ((k5 : Int) == 0) = false := by rw [beq_eq_false_iff_ne]; omega
        clear h5
        go_wp2
        refine bodyPost_ret (v := .agg #[.int .i64 (2), .int .i64 (1 + (k1 : Int)), .int .i64 ((k2 : Int)), .int .i64 (9), .bool (false)]) (by simp [results, Try.results36, go_sem, q0, q1, q2, q3, q4]) rfl ⟨⟨2, 1 + (k1 : Int), (k2 : Int), 9, false⟩, rfl, ⟨⟨by dsimp only; omega, by dsimp only; omega⟩, ⟨by dsimp only; omega, by dsimp only; omega⟩, ⟨by dsimp only; omega, by dsimp only; omega⟩, ⟨by dsimp only; omega, by dsimp only; omega⟩⟩, ?_, ?_⟩
        · refine (Rd.high (L := w.heap.size) hR5 ?_ hRl).mono (by omega)
          repeat (with_reducible refine Agr.setCell ?_ (.inr (by first | exact Nat.le_refl _ | (show w.heap.size ≤ n4; omega))) _)
          with_reducible exact Agr.refl _ _
        · repeat (with_reducible refine Agr.setCell ?_ (.inl (by first | exact Nat.le_refl _ | (show w.heap.size ≤ n4; omega))) _)
          with_reducible exact hA5

  · have u0 : ((k3 : Int) == 0) = false := by rw [beq_eq_false_iff_ne]; omega
    have u1 : ((k3 : Int) == 1) = false := by rw [beq_eq_false_iff_ne]; omega
    have u2 : ((k3 : Int) == 2) = false := by rw [beq_eq_false_iff_ne]; omega
    by_cases h3 : k3 = 3
    · have u3 : ((k3 : Int) == 3) = true := by rw [beq_iff_eq]; omega
      clear h0 h3
      go_wp2_with fail
      have hW := wrote_one x0 (.int .i64 3)
      have hRs : Rd (w3.setCell ⟨n4, 0, none⟩ (.int .i64 3)) B R (m + 3) := hR3.agr hW.agr (by omega) (fun b hb e => by have := hR3.le; omega)
      have hAs : Agr (· = R) w (w3.setCell ⟨n4, 0, none⟩ (.int .i64 3)) := hA3.setCell (.inl (by show w.heap.size ≤ n4; omega)) _
      have x0n : (w3.setCell ⟨n4, 0, none⟩ (.int .i64 3)).cell? ⟨n4, 0, none⟩ = some (.int .i64 3) := hW.new_ 0 _ rfl
      replace q0 := (hW.agr.cell (b := w.heap.size) (by omega) (by omega) 0).trans q0
      replace f0 := (hW.frozen ⟨w.heap.size, 0, none⟩).trans f0
      replace y0 := (hW.frozen ⟨n4, 0, none⟩).trans y0
      replace q1 := (hW.agr.cell (b := w.heap.size) (by omega) (by omega) 1).trans q1
      replace f1 := (hW.frozen ⟨w.heap.size, 1, none⟩).trans f1
      replace x1 := (hW.old_ 1 (by simp)).trans x1
      replace y1 := (hW.frozen ⟨n4, 1, none⟩).trans y1
      replace q2 := (hW.agr.cell (b := w.heap.size) (by omega) (by omega) 2).trans q2
      replace f2 := (hW.frozen ⟨w.heap.size, 2, none⟩).trans f2
      replace x2 := (hW.old_ 2 (by simp)).trans x2
      replace y2 := (hW.frozen ⟨n4, 2, none⟩).trans y2
      replace q3 := (hW.agr.cell (b := w.heap.size) (by omega) (by omega) 3).trans q3
      replace f3 := (hW.frozen ⟨w.heap.size, 3, none⟩).trans f3
      replace x3 := (hW.old_ 3 (by simp)).trans x3
      replace y3 := (hW.frozen ⟨n4, 3, none⟩).trans y3
      replace q4 := (hW.agr.cell (b := w.heap.size) (by omega) (by omega) 4).trans q4
      replace f4 := (hW.frozen ⟨w.heap.size, 4, none⟩).trans f4
      replace x4 := (hW.old_ 4 (by simp)).trans x4
      replace y4 := (hW.frozen ⟨n4, 4, none⟩).trans y4
      replace x0 := x0n
      have hsa : n4 < (w3.setCell ⟨n4, 0, none⟩ (.int .i64 3)).heap.size := by simpa using hs3
      have hsb : w.heap.size < (w3.setCell ⟨n4, 0, none⟩ (.int .i64 3)).heap.size := by simpa using hs3'
      clear hW x0n hR3 hA3
      refine (spec_pickI 4 4 B R (m + 3) _ rfl (by omega) (by omega) (by omega) hRs).mono ?_
      rintro e w5 ⟨k5, rfl, hk5, hR5, hB5⟩
      replace q0 := (hB5.cell hsb hne 0).trans q0
      replace f0 := (hB5.fz hsb hne 0).trans f0
      replace x0 := (hB5.cell hsa hne4 0).trans x0
      replace y0 := (hB5.fz hsa hne4 0).trans y0
      replace q1 := (hB5.cell hsb hne 1).trans q1
      replace f1 := (hB5.fz hsb hne 1).trans f1
      replace x1 := (hB5.cell hsa hne4 1).trans x1
      replace y1 := (hB5.fz hsa hne4 1).trans y1
      replace q2 := (hB5.cell hsb hne 2).trans q2
      replace f2 := (hB5.fz hsb hne 2).trans f2
      replace x2 := (hB5.cell hsa hne4 2).trans x2
      replace y2 := (hB5.fz hsa hne4 2).trans y2
      replace q3 := (hB5.cell hsb hne 3).trans q3
      replace f3 := (hB5.fz hsb hne 3).trans f3
      replace x3 := (hB5.cell hsa hne4 3).trans x3
      replace y3 := (hB5.fz hsa hne4 3).trans y3
      replace q4 := (hB5.cell hsb hne 4).trans q4
      replace f4 := (hB5.fz hsb hne 4).trans f4
      replace x4 := (hB5.cell hsa hne4 4).trans x4
      replace y4 := (hB5.fz hsa hne4 4).trans y4
      have hA5 := hAs.trans hB5 (fun _ _ h => h)
      have hs5 : n4 < w5.heap.size := Nat.lt_of_lt_of_le hsa hB5.size
      have hs5' : w.heap.size < w5.heap.size := by omega
      clear hB5 hAs hRs
      by_cases h5 : k5 = 0
      · have t5 : ((k5 : Int) == 0) = true := by subst h5; rfl
        clear h5
        go_wp2_with fail
        refine (spec_pickI 5 5 B R (m + 4) _ rfl (by omega) (by omega) (by omega) hR5).mono ?_
        rintro e w6 ⟨k6, rfl, hk6, hR6, hB6⟩
        replace q0 := (hB6.cell hs5' hne 0).trans q0
        replace f0 := (hB6.fz hs5' hne 0).trans f0
        replace x0 := (hB6.cell hs5 hne4 0).trans x0
        replace y0 := (hB6.fz hs5 hne4 0).trans y0
        replace q1 := (hB6.cell hs5' hne 1).trans q1
        replace f1 := (hB6.fz hs5' hne 1).trans f1
        replace x1 := (hB6.cell hs5 hne4 1).trans x1
        replace y1 := (hB6.fz hs5 hne4 1).trans y1
        replace q2 := (hB6.cell hs5' hne 2).trans q2
        replace f2 := (hB6.fz hs5' hne 2).trans f2
        replace x2 := (hB6.cell hs5 hne4 2).trans x2
        replace y2 := (hB6.fz hs5 hne4 2).trans y2
        replace q3 := (hB6.cell hs5' hne 3).trans q3
        replace f3 := (hB6.fz hs5' hne 3).trans f3
        replace x3 := (hB6.cell hs5 hne4 3).trans x3
        replace y3 := (hB6.fz hs5 hne4 3).trans y3
        replace q4 := (hB6.cell hs5' hne 4).trans q4
        replace f4 := (hB6.fz hs5' hne 4).trans f4
        replace x4 := (hB6.cell hs5 hne4 4).trans x4
        replace y4 := (hB6.fz hs5 hne4 4).trans y4
        have hA6 := hA5.trans hB6 (fun _ _ h => h)
        have hs6a : n4 < w6.heap.size := Nat.lt_of_lt_of_le hs5 hB6.size
        have hs6b : w.heap.size < w6.heap.size := by omega
        go_wp2_with fail
        have hW := wrote_one x3 (.int .i64 k6)
        have hR6s : Rd (w6.setCell ⟨n4, 3, none⟩ (.int .i64 k6)) B R (m + 5) := hR6.agr hW.agr (by omega) (fun b hb e => by have := hR6.le; omega)
        have hA6s : Agr (· = R) w (w6.setCell ⟨n4, 3, none⟩ (.int .i64 k6)) := hA6.setCell (.inl (by show w.heap.size ≤ n4; omega)) _
        have x3n : (w6.setCell ⟨n4, 3, none⟩ (.int .i64 k6)).cell? ⟨n4, 3, none⟩ = some (.int .i64 k6) := hW.new_ 0 _ rfl
        replace q0 := (hW.agr.cell (b := w.heap.size) (by omega) (by omega) 0).trans q0
        replace f0 := (hW.frozen ⟨w.heap.size, 0, none⟩).trans f0
        replace x0 := (hW.old_ 0 (by simp)).trans x0
        replace y0 := (hW.frozen ⟨n4, 0, none⟩).trans y0
        replace q1 := (hW.agr.cell (b := w.heap.size) (by omega) (by omega) 1).trans q1
        replace f1 := (hW.frozen ⟨w.heap.size, 1, none⟩).trans f1
        replace x1 := (hW.old_ 1 (by simp)).trans x1
        replace y1 := (hW.frozen ⟨n4, 1, none⟩).trans y1
        replace q2 := (hW.agr.cell (b := w.heap.size) (by omega) (by omega) 2).trans q2
        replace f2 := (hW.frozen ⟨w.heap.size, 2, none⟩).trans f2
        replace x2 := (hW.old_ 2 (by simp)).trans x2
        replace y2 := (hW.frozen ⟨n4, 2, none⟩).trans y2
        replace q3 := (hW.agr.cell (b := w.heap.size) (by omega) (by omega) 3).trans q3
        replace f3 := (hW.frozen ⟨w.heap.size, 3, none⟩).trans f3
        replace y3 := (hW.frozen ⟨n4, 3, none⟩).trans y3
        replace q4 := (hW.agr.cell (b := w.heap.size) (by omega) (by omega) 4).trans q4
        replace f4 := (hW.frozen ⟨w.heap.size, 4, none⟩).trans f4
        replace x4 := (hW.old_ 4 (by simp)).trans x4
        replace y4 := (hW.frozen ⟨n4, 4, none⟩).trans y4
        replace x3 := x3n
        have hs7 : n4 < (w6.setCell ⟨n4, 3, none⟩ (.int .i64 k6)).heap.size := by simpa using hs6a
        have hs7' : w.heap.size < (w6.setCell ⟨n4, 3, none⟩ (.int .i64 k6)).heap.size := by simpa using hs6b
        clear hW x3n hB6 hR6 hA6 hA5 hR5
        refine (spec_pickI 3 3 B R (m + 5) _ rfl (by omega) (by omega) (by omega) hR6s).mono ?_
        rintro e w7 ⟨k7, rfl, hk7, hR7, hB7⟩
        replace q0 := (hB7.cell hs7' hne 0).trans q0
        replace f0 := (hB7.fz hs7' hne 0).trans f0
        replace x0 := (hB7.cell hs7 hne4 0).trans x0
        replace y0 := (hB7.fz hs7 hne4 0).trans y0
        replace q1 := (hB7.cell hs7' hne 1).trans q1
        replace f1 := (hB7.fz hs7' hne 1).trans f1
        replace x1 := (hB7.cell hs7 hne4 1).trans x1
        replace y1 := (hB7.fz hs7 hne4 1).trans y1
        replace q2 := (hB7.cell hs7' hne 2).trans q2
        replace f2 := (hB7.fz hs7' hne 2).trans f2
        replace x2 := (hB7.cell hs7 hne4 2).trans x2
        replace y2 := (hB7.fz hs7 hne4 2).trans y2
        replace q3 := (hB7.cell hs7' hne 3).trans q3
        replace f3 := (hB7.fz hs7' hne 3).trans f3
        replace x3 := (hB7.cell hs7 hne4 3).trans x3
        replace y3 := (hB7.fz hs7 hne4 3).trans y3
        replace q4 := (hB7.cell hs7' hne 4).trans q4
        replace f4 := (hB7.fz hs7' hne 4).trans f4
        replace x4 := (hB7.cell hs7 hne4 4).trans x4
        replace y4 := (hB7.fz hs7 hne4 4).trans y4
        have hA7 := hA6s.trans hB7 (fun _ _ h => h)
        have hs7a : n4 < w7.heap.size := Nat.lt_of_lt_of_le hs7 hB7.size
        have hs7b : w.heap.size < w7.heap.size := by omega
        clear hB7 hR6s hA6s hs7 hs7'
        go_wp2
        refine bodyPost_ret (v := .agg #[.int .i64 (3), .int .i64 (1 + (k1 : Int)), .int .i64 ((k2 : Int)), .int .i64 ((k6 : Int)), .bool (decide ((0 : Int) < k7))]) (by simp [results, Try.results36, go_sem, q0, q1, q2, q3, q4]) rfl ⟨⟨3, 1 + (k1 : Int), (k2 : Int), (k6 : Int), decide ((0 : Int) < k7)⟩, rfl, ⟨⟨by dsimp only; omega, by dsimp only; omega⟩, ⟨by dsimp only; omega, by dsimp only; omega⟩, ⟨by dsimp only; omega, by dsimp only; omega⟩, ⟨by dsimp only; omega, by dsimp only; omega⟩⟩, ?_, ?_⟩
        · refine (Rd.high (L := w.heap.size) hR7 ?_ hRl).mono (by omega)
          repeat (with_reducible refine Agr.setCell ?_ (.inr (by first | exact Nat.le_refl _ | (show w.heap.size ≤ n4; omega))) _)
          with_reducible exact Agr.refl _ _
        · repeat (with_reducible refine Agr.setCell ?_ (.inl (by first | exact Nat.le_refl _ | (show w.heap.size ≤ n4; omega))) _)
          with_reducible exact hA7
      · have t5 : ((k5 : Int) == 0) = false := by rw [beq_eq_false_iff_ne]; omega
        clear h5
        go_wp2
        refine bodyPost_ret (v := .agg #[.int .i64 (3), .int .i64 (1 + (k1 : Int)), .int .i64 ((k2 : Int)), .int .i64 (9), .bool (false)]) (by simp [results, Try.results36, go_sem, q0, q1, q2, q3, q4]) rfl ⟨⟨3, 1 + (k1 : Int), (k2 : Int), 9, false⟩, rfl, ⟨⟨by dsimp only; omega, by dsimp only; omega⟩, ⟨by dsimp only; omega, by dsimp only; omega⟩, ⟨by dsimp only; omega, by dsimp only; omega⟩, ⟨by dsimp only; omega, by dsimp only; omega⟩⟩, ?_, ?_⟩
        · refine (Rd.high (L := w.heap.size) hR5 ?_ hRl).mono (by omega)
          repeat (with_reducible refine Agr.setCell ?_ (.inr (by first | exact Nat.le_refl _ | (show w.heap.size ≤ n4; omega))) _)
          with_reducible exact Agr.refl _ _
        · repeat (with_reducible refine Agr.setCell ?_ (.inl (by first | exact Nat.le_refl _ | (show w.heap.size ≤ n4; omega))) _)
          with_reducible exact hA5

    · have u3 : ((k3 : Int) == 3) = false := by rw [beq_eq_false_iff_ne]; omega
      by_cases h4 : k3 = 4
      · have u4 : ((k3 : Int) == 4) = true := by rw [beq_iff_eq]; omega
        clear h0 h3 h4
        go_wp2_with fail
        refine (spec_pickI 3 3 B R (m + 3) _ rfl (by omega) (by omega) (by omega) hR3).mono ?_
        rintro e w4 ⟨k4, rfl, hk4, hR4, hB4⟩
        replace q0 := (hB4.cell hs3' hne 0).trans q0
        replace f0 := (hB4.fz hs3' hne 0).trans f0
        replace x0 := (hB4.cell hs3 hne4 0).trans x0
        replace y0 := (hB4.fz hs3 hne4 0).trans y0
        replace q1 := (hB4.cell hs3' hne 1).trans q1
        replace f1 := (hB4.fz hs3' hne 1).trans f1
        replace x1 := (hB4.cell hs3 hne4 1).trans x1
        replace y1 := (hB4.fz hs3 hne4 1).trans y1
        replace q2 := (hB4.cell hs3' hne 2).trans q2
        replace f2 := (hB4.fz hs3' hne 2).trans f2
        replace x2 := (hB4.cell hs3 hne4 2).trans x2
        replace y2 := (hB4.fz hs3 hne4 2).trans y2
        replace q3 := (hB4.cell hs3' hne 3).trans q3
        replace f3 := (hB4.fz hs3' hne 3).trans f3
        replace x3 := (hB4.cell hs3 hne4 3).trans x3
        replace y3 := (hB4.fz hs3 hne4 3).trans y3
        replace q4 := (hB4.cell hs3' hne 4).trans q4
        replace f4 := (hB4.fz hs3' hne 4).trans f4
        replace x4 := (hB4.cell hs3 hne4 4).trans x4
        replace y4 := (hB4.fz hs3 hne4 4).trans y4
        have hA4 := hA3.trans hB4 (fun _ _ h => h)
        have hs4 : n4 < w4.heap.size := Nat.lt_of_lt_of_le hs3 hB4.size
        have hs4' : w.heap.size < w4.heap.size := by omega
        clear hB4 hA3 hR3
        by_cases h4 : k4 = 0
        · have t4 : ((k4 : Int) == 0) = true := by subst h4; rfl
          clear h4
          go_wp2_with fail
          have hW := wrote_one x0 (.int .i64 4)
          have hRs : Rd (w4.setCell ⟨n4, 0, none⟩ (.int .i64 4)) B R (m + 4) := hR4.agr hW.agr (by omega) (fun b hb e => by have := hR4.le; omega)
          have hAs : Agr (· = R) w (w4.setCell ⟨n4, 0, none⟩ (.int .i64 4)) := hA4.setCell (.inl (by show w.heap.size ≤ n4; omega)) _
          have x0n : (w4.setCell ⟨n4, 0, none⟩ (.int .i64 4)).cell? ⟨n4, 0, none⟩ = some (.int .i64 4) := hW.new_ 0 _ rfl
          replace q0 := (hW.agr.cell (b := w.heap.size) (by omega) (by omega) 0).trans q0
          replace f0 := (hW.frozen ⟨w.heap.size, 0, none⟩).trans f0
          replace y0 := (hW.frozen ⟨n4, 0, none⟩).trans y0
          replace q1 := (hW.agr.cell (b := w.heap.size) (by omega) (by omega) 1).trans q1
          replace f1 := (hW.frozen ⟨w.heap.size, 1, none⟩).trans f1
          replace x1 := (hW.old_ 1 (by simp)).trans x1
          replace y1 := (hW.frozen ⟨n4, 1, none⟩).trans y1
          replace q2 := (hW.agr.cell (b := w.heap.size) (by omega) (by omega) 2).trans q2
          replace f2 := (hW.frozen ⟨w.heap.size, 2, none⟩).trans f2
          replace x2 := (hW.old_ 2 (by simp)).trans x2
          replace y2 := (hW.frozen ⟨n4, 2, none⟩).trans y2
          replace q3 := (hW.agr.cell (b := w.heap.size) (by omega) (by omega) 3).trans q3
          replace f3 := (hW.frozen ⟨w.heap.size, 3, none⟩).trans f3
          replace x3 := (hW.old_ 3 (by simp)).trans x3
          replace y3 := (hW.frozen ⟨n4, 3, none⟩).trans y3
          replace q4 := (hW.agr.cell (b := w.heap.size) (by omega) (by omega) 4).trans q4
          replace f4 := (hW.frozen ⟨w.heap.size, 4, none⟩).trans f4
          replace x4 := (hW.old_ 4 (by simp)).trans x4
          replace y4 := (hW.frozen ⟨n4, 4, none⟩).trans y4
          replace x0 := x0n
          have hsa : n4 < (w4.setCell ⟨n4, 0, none⟩ (.int .i64 4)).heap.size := by simpa using hs4
          have hsb : w.heap.size < (w4.setCell ⟨n4, 0, none⟩ (.int .i64 4)).heap.size := by simpa using hs4'
          clear hW x0n hR4 hA4
          refine (spec_pickI 4 4 B R (m + 4) _ rfl (by omega) (by omega) (by omega) hRs).mono ?_
          rintro e w5 ⟨k5, rfl, hk5, hR5, hB5⟩
          replace q0 := (hB5.cell hsb hne 0).trans q0
          replace f0 := (hB5.fz hsb hne 0).trans f0
          replace x0 := (hB5.cell hsa hne4 0).trans x0
          replace y0 := (hB5.fz hsa hne4 0).trans y0
          replace q1 := (hB5.cell hsb hne 1).trans q1
          replace f1 := (hB5.fz hsb hne 1).trans f1
          replace x1 := (hB5.cell hsa hne4 1).trans x1
          replace y1 := (hB5.fz hsa hne4 1).trans y1
          replace q2 := (hB5.cell hsb hne 2).trans q2
          replace f2 := (hB5.fz hsb hne 2).trans f2
          replace x2 := (hB5.cell hsa hne4 2).trans x2
          replace y2 := (hB5.fz hsa hne4 2).trans y2
          replace q3 := (hB5.cell hsb hne 3).trans q3
          replace f3 := (hB5.fz hsb hne 3).trans f3
          replace x3 := (hB5.cell hsa hne4 3).trans x3
          replace y3 := (hB5.fz hsa hne4 3).trans y3
          replace q4 := (hB5.cell hsb hne 4).trans q4
          replace f4 := (hB5.fz hsb hne 4).trans f4
          replace x4 := (hB5.cell hsa hne4 4).trans x4
          replace y4 := (hB5.fz hsa hne4 4).trans y4
          have hA5 := hAs.trans hB5 (fun _ _ h => h)
          have hs5 : n4 < w5.heap.size := Nat.lt_of_lt_of_le hsa hB5.size
          have hs5' : w.heap.size < w5.heap.size := by omega
          clear hB5 hAs hRs
          by_cases h5 : k5 = 0
          · have t5 : ((k5 : Int) == 0) = true := by subst h5; rfl
            clear h5
            go_wp2_with fail
            refine (spec_pickI 5 5 B R (m + 5) _ rfl (by omega) (by omega) (by omega) hR5).mono ?_
            rintro e w6 ⟨k6, rfl, hk6, hR6, hB6⟩
            replace q0 := (hB6.cell hs5' hne 0).trans q0
            replace f0 := (hB6.fz hs5' hne 0).trans f0
            replace x0 := (hB6.cell hs5 hne4 0).trans x0
            replace y0 := (hB6.fz hs5 hne4 0).trans y0
            replace q1 := (hB6.cell hs5' hne 1).trans q1
            replace f1 := (hB6.fz hs5' hne 1).trans f1
            replace x1 := (hB6.cell hs5 hne4 1).trans x1
            replace y1 := (hB6.fz hs5 hne4 1).trans y1
            replace q2 := (hB6.cell hs5' hne 2).trans q2
            replace f2 := (hB6.fz hs5' hne 2).trans f2
            replace x2 := (hB6.cell hs5 hne4 2).trans x2
            replace y2 := (hB6.fz hs5 hne4 2).trans y2
            replace q3 := (hB6.cell hs5' hne 3).trans q3
            replace f3 := (hB6.fz hs5' hne 3).trans f3
            replace x3 := (hB6.cell hs5 hne4 3).trans x3
            replace y3 := (hB6.fz hs5 hne4 3).trans y3
            replace q4 := (hB6.cell hs5' hne 4).trans q4
            replace f4 := (hB6.fz hs5' hne 4).trans f4
            replace x4 := (hB6.cell hs5 hne4 4).trans x4
            replace y4 := (hB6.fz hs5 hne4 4).trans y4
            have hA6 := hA5.trans hB6 (fun _ _ h => h)
            have hs6a : n4 < w6.heap.size := Nat.lt_of_lt_of_le hs5 hB6.size
            have hs6b : w.heap.size < w6.heap.size := by omega
            go_wp2_with fail
            have hW := wrote_one x3 (.int .i64 k6)
            have hR6s : Rd (w6.setCell ⟨n4, 3, none⟩ (.int .i64 k6)) B R (m + 6) := hR6.agr hW.agr (by omega) (fun b hb e => by have := hR6.le; omega)
            have hA6s : Agr (· = R) w (w6.setCell ⟨n4, 3, none⟩ (.int .i64 k6)) := hA6.setCell (.inl (by show w.heap.size ≤ n4; omega)) _
            have x3n : (w6.setCell ⟨n4, 3, none⟩ (.int .i64 k6)).cell? ⟨n4, 3, none⟩ = some (.int .i64 k6) := hW.new_ 0 _ rfl
            replace q0 := (hW.agr.cell (b := w.heap.size) (by omega) (by omega) 0).trans q0
            replace f0 := (hW.frozen ⟨w.heap.size, 0, none⟩).trans f0
            replace x0 := (hW.old_ 0 (by simp)).trans x0
            replace y0 := (hW.frozen ⟨n4, 0, none⟩).trans y0
            replace q1 := (hW.agr.cell (b := w.heap.size) (by omega) (by omega) 1).trans q1
            replace f1 := (hW.frozen ⟨w.heap.size, 1, none⟩).trans f1
            replace x1 := (hW.old_ 1 (by simp)).trans x1
            replace y1 := (hW.frozen ⟨n4, 1, none⟩).trans y1
            replace q2 := (hW.agr.cell (b := w.heap.size) (by omega) (by omega) 2).trans q2
            replace f2 := (hW.frozen ⟨w.heap.size, 2, none⟩).trans f2
            replace x2 := (hW.old_ 2 (by simp)).trans x2
            replace y2 := (hW.frozen ⟨n4, 2, none⟩).trans y2
            replace q3 := (hW.agr.cell (b := w.heap.size) (by omega) (by omega) 3).trans q3
            replace f3 := (hW.frozen ⟨w.heap.size, 3, none⟩).trans f3
            replace y3 := (hW.frozen ⟨n4, 3, none⟩).trans y3
            replace q4 := (hW.agr.cell (b := w.heap.size) (by omega) (by omega) 4).trans q4
            replace f4 := (hW.frozen ⟨w.heap.size, 4, none⟩).trans f4
            replace x4 := (hW.old_ 4 (by simp)).trans x4
            replace y4 := (hW.frozen ⟨n4, 4, none⟩).trans y4
            replace x3 := x3n
            have hs7 : n4 < (w6.setCell ⟨n4, 3, none⟩ (.int .i64 k6)).heap.size := by simpa using hs6a
            have hs7' : w.heap.size < (w6.setCell ⟨n4, 3, none⟩ (.int .i64 k6)).heap.size := by simpa using hs6b
            clear hW x3n hB6 hR6 hA6 hA5 hR5
            refine (spec_pickI 3 3 B R (m + 6) _ rfl (by omega) (by omega) (by omega) hR6s).mono ?_
            rintro e w7 ⟨k7, rfl, hk7, hR7, hB7⟩
            replace q0 := (hB7.cell hs7' hne 0).trans q0
            replace f0 := (hB7.fz hs7' hne 0).trans f0
            replace x0 := (hB7.cell hs7 hne4 0).trans x0
            replace y0 := (hB7.fz hs7 hne4 0).trans y0
            replace q1 := (hB7.cell hs7' hne 1).trans q1
            replace f1 := (hB7.fz hs7' hne 1).trans f1
            replace x1 := (hB7.cell hs7 hne4 1).trans x1
            replace y1 := (hB7.fz hs7 hne4 1).trans y1
            replace q2 := (hB7.cell hs7' hne 2).trans q2
            replace f2 := (hB7.fz hs7' hne 2).trans f2
            replace x2 := (hB7.cell hs7 hne4 2).trans x2
            replace y2 := (hB7.fz hs7 hne4 2).trans y2
            replace q3 := (hB7.cell hs7' hne 3).trans q3
            replace f3 := (hB7.fz hs7' hne 3).trans f3
            replace x3 := (hB7.cell hs7 hne4 3).trans x3
            replace y3 := (hB7.fz hs7 hne4 3).trans y3
            replace q4 := (hB7.cell hs7' hne 4).trans q4
            replace f4 := (hB7.fz hs7' hne 4).trans f4
            replace x4 := (hB7.cell hs7 hne4 4).trans x4
            replace y4 := (hB7.fz hs7 hne4 4).trans y4
            have hA7 := hA6s.trans hB7 (fun _ _ h => h)
            have hs7a : n4 < w7.heap.size := Nat.lt_of_lt_of_le hs7 hB7.size
            have hs7b : w.heap.size < w7.heap.size := by omega
            clear hB7 hR6s hA6s hs7 hs7'
            go_wp2
            refine bodyPost_ret (v := .agg #[.int .i64 (4), .int .i64 (1 + (k1 : Int)), .int .i64 ((k2 : Int)), .int .i64 ((k6 : Int)), .bool (decide ((0 : Int) < k7))]) (by simp [results, Try.results36, go_sem, q0, q1, q2, q3, q4]) rfl ⟨⟨4, 1 + (k1 : Int), (k2 : Int), (k6 : Int), decide ((0 : Int) < k7)⟩, rfl, ⟨⟨by dsimp only; omega, by dsimp only; omega⟩, ⟨by dsimp only; omega, by dsimp only; omega⟩, ⟨by dsimp only; omega, by dsimp only; omega⟩, ⟨by dsimp only; omega, by dsimp only; omega⟩⟩, ?_, ?_⟩
            · refine (Rd.high (L := w.heap.size) hR7 ?_ hRl).mono (by omega)
              repeat (with_reducible refine Agr.setCell ?_ (.inr (by first | exact Nat.le_refl _ | (show w.heap.size ≤ n4; omega))) _)
              with_reducible exact Agr.refl _ _
            · repeat (with_reducible refine Agr.setCell ?_ (.inl (by first | exact Nat.le_refl _ | (show w.heap.size ≤ n4; omega))) _)
              with_reducible exact hA7
          · have t5 : ((k5 : Int) == 0) = false := by rw [beq_eq_false_iff_ne]; omega
            clear h5
            go_wp2
            refine bodyPost_ret (v := .agg #[.int .i64 (4), .int .i64 (1 + (k1 : Int)), .int .i64 ((k2 : Int)), .int .i64 (9), .bool (false)]) (by simp [results, Try.results36, go_sem, q0, q1, q2, q3, q4]) rfl ⟨⟨4, 1 + (k1 : Int), (k2 : Int), 9, false⟩, rfl, ⟨⟨by dsimp only; omega, by dsimp only; omega⟩, ⟨by dsimp only; omega, by dsimp only; omega⟩, ⟨by dsimp only; omega, by dsimp only; omega⟩, ⟨by dsimp only; omega, by dsimp only; omega⟩⟩, ?_, ?_⟩
            · refine (Rd.high (L := w.heap.size) hR5 ?_ hRl).mono (by omega)
              repeat (with_reducible refine Agr.setCell ?_ (.inr (by first | exact Nat.le_refl _ | (show w.heap.size ≤ n4; omega))) _)
              with_reducible exact Agr.refl _ _
            · repeat (with_reducible refine Agr.setCell ?_ (.inl (by first | exact Nat.le_refl _ | (show w.heap.size ≤ n4; omega))) _)
              with_reducible exact hA5

        · have t4 : ((k4 : Int) == 0) = false := by rw [beq_eq_false_iff_ne]; omega
          clear h4
          go_wp2_with fail
          refine (spec_pickI 4 4 B R (m + 4) _ rfl (by omega) (by omega) (by omega) hR4).mono ?_
          rintro e w5 ⟨k5, rfl, hk5, hR5, hB5⟩
          replace q0 := (hB5.cell hs4' hne 0).trans q0
          replace f0 := (hB5.fz hs4' hne 0).trans f0
          replace x0 := (hB5.cell hs4 hne4 0).trans x0
          replace y0 := (hB5.fz hs4 hne4 0).trans y0
          replace q1 := (hB5.cell hs4' hne 1).trans q1
          replace f1 := (hB5.fz hs4' hne 1).trans f1
          replace x1 := (hB5.cell hs4 hne4 1).trans x1
          replace y1 := (hB5.fz hs4 hne4 1).trans y1
          replace q2 := (hB5.cell hs4' hne 2).trans q2
          replace f2 := (hB5.fz hs4' hne 2).trans f2
          replace x2 := (hB5.cell hs4 hne4 2).trans x2
          replace y2 := (hB5.fz hs4 hne4 2).trans y2
          replace q3 := (hB5.cell hs4' hne 3).trans q3
          replace f3 := (hB5.fz hs4' hne 3).trans f3
          replace x3 := (hB5.cell hs4 hne4 3).trans x3
          replace y3 := (hB5.fz hs4 hne4 3).trans y3
          replace q4 := (hB5.cell hs4' hne 4).trans q4
          replace f4 := (hB5.fz hs4' hne 4).trans f4
          replace x4 := (hB5.cell hs4 hne4 4).trans x4
          replace y4 := (hB5.fz hs4 hne4 4).trans y4
          have hA5 := hA4.trans hB5 (fun _ _ h => h)
          have hs5 : n4 < w5.heap.size := Nat.lt_of_lt_of_le hs4 hB5.size
          have hs5' : w.heap.size < w5.heap.size := by omega
          clear hB5 hA4 hR4
          by_cases h5 : k5 = 0
          · have t5 : ((k5 : Int) == 0) = true := by subst h5; rfl
            clear h5
            go_wp2_with fail
            refine (spec_pickI 5 5 B R (m + 5) _ rfl (by omega) (by omega) (by omega) hR5).mono ?_
            rintro e w6 ⟨k6, rfl, hk6, hR6, hB6⟩
            replace q0 := (hB6.cell hs5' hne 0).trans q0
            replace f0 := (hB6.fz hs5' hne 0).trans f0
            replace x0 := (hB6.cell hs5 hne4 0).trans x0
            replace y0 := (hB6.fz hs5 hne4 0).trans y0
            replace q1 := (hB6.cell hs5' hne 1).trans q1
            replace f1 := (hB6.fz hs5' hne 1).trans f1
            replace x1 := (hB6.cell hs5 hne4 1).trans x1
            replace y1 := (hB6.fz hs5 hne4 1).trans y1
            replace q2 := (hB6.cell hs5' hne 2).trans q2
            replace f2 := (hB6.fz hs5' hne 2).trans f2
            replace x2 := (hB6.cell hs5 hne4 2).trans x2
            replace y2 := (hB6.fz hs5 hne4 2).trans y2
            replace q3 := (hB6.cell hs5' hne 3).trans q3
            replace f3 := (hB6.fz hs5' hne 3).trans f3
            replace x3 := (hB6.cell hs5 hne4 3).trans x3
            replace y3 := (hB6.fz hs5 hne4 3).trans y3
            replace q4 := (hB6.cell hs5' hne 4).trans q4
            replace f4 := (hB6.fz hs5' hne 4).trans f4
            replace x4 := (hB6.cell hs5 hne4 4).trans x4
            replace y4 := (hB6.fz hs5 hne4 4).trans y4
            have hA6 := hA5.trans hB6 (fun _ _ h => h)
            have hs6a : n4 < w6.heap.size := Nat.lt_of_lt_of_le hs5 hB6.size
            have hs6b : w.heap.size < w6.heap.size := by omega
            go_wp2_with fail
            have hW := wrote_one x3 (.int .i64 k6)
            have hR6s : Rd (w6.setCell ⟨n4, 3, none⟩ (.int .i64 k6)) B R (m + 6) := hR6.agr hW.agr (by omega) (fun b hb e => by have := hR6.le; omega)
            have hA6s : Agr (· = R) w (w6.setCell ⟨n4, 3, none⟩ (.int .i64 k6)) := hA6.setCell (.inl (by show w.heap.size ≤ n4; omega)) _
            have x3n : (w6.setCell ⟨n4, 3, none⟩ (.int .i64 k6)).cell? ⟨n4, 3, none⟩ = some (.int .i64 k6) := hW.new_ 0 _ rfl
            replace q0 := (hW.agr.cell (b := w.heap.size) (by omega) (by omega) 0).trans q0
            replace f0 := (hW.frozen ⟨w.heap.size, 0, none⟩).trans f0
            replace x0 := (hW.old_ 0 (by simp)).trans x0
            replace y0 := (hW.frozen ⟨n4, 0, none⟩).trans y0
            replace q1 := (hW.agr.cell (b := w.heap.size) (by omega) (by omega) 1).trans q1
            replace f1 := (hW.frozen ⟨w.heap.size, 1, none⟩).trans f1
            replace x1 := (hW.old_ 1 (by simp)).trans x1
            replace y1 := (hW.frozen ⟨n4, 1, none⟩).trans y1
            replace q2 := (hW.agr.cell (b := w.heap.size) (by omega) (by omega) 2).trans q2
            replace f2 := (hW.frozen ⟨w.heap.size, 2, none⟩).trans f2
            replace x2 := (hW.old_ 2 (by simp)).trans x2
            replace y2 := (hW.frozen ⟨n4, 2, none⟩).trans y2
            replace q3 := (hW.agr.cell (b := w.heap.size) (by omega) (by omega) 3).trans q3
            replace f3 := (hW.frozen ⟨w.heap.size, 3, none⟩).trans f3
            replace y3 := (hW.frozen ⟨n4, 3, none⟩).trans y3
            replace q4 := (hW.agr.cell (b := w.heap.size) (by omega) (by omega) 4).trans q4
            replace f4 := (hW.frozen ⟨w.heap.size, 4, none⟩).trans f4
            replace x4 := (hW.old_ 4 (by simp)).trans x4
            replace y4 := (hW.frozen ⟨n4, 4, none⟩).trans y4
            replace x3 := x3n
            have hs7 : n4 < (w6.setCell ⟨n4, 3, none⟩ (.int .i64 k6)).heap.size := by simpa using hs6a
            have hs7' : w.heap.size < (w6.setCell ⟨n4, 3, none⟩ (.int .i64 k6)).heap.size := by simpa using hs6b
            clear hW x3n hB6 hR6 hA6 hA5 hR5
            refine (spec_pickI 3 3 B R (m + 6) _ rfl (by omega) (by omega) (by omega) hR6s).mono ?_
            rintro e w7 ⟨k7, rfl, hk7, hR7, hB7⟩
            replace q0 := (hB7.cell hs7' hne 0).trans q0
            replace f0 := (hB7.fz hs7' hne 0).trans f0
            replace x0 := (hB7.cell hs7 hne4 0).trans x0
            replace y0 := (hB7.fz hs7 hne4 0).trans y0
            replace q1 := (hB7.cell hs7' hne 1).trans q1
            replace f1 := (hB7.fz hs7' hne 1).trans f1
            replace x1 := (hB7.cell hs7 hne4 1).trans x1
            replace y1 := (hB7.fz hs7 hne4 1).trans y1
            replace q2 := (hB7.cell hs7' hne 2).trans q2
            replace f2 := (hB7.fz hs7' hne 2).trans f2
            replace x2 := (hB7.cell hs7 hne4 2).trans x2
            replace y2 := (hB7.fz hs7 hne4 2).trans y2
            replace q3 := (hB7.cell hs7' hne 3).trans q3
            replace f3 := (hB7.fz hs7' hne 3).trans f3
            replace x3 := (hB7.cell hs7 hne4 3).trans x3
            replace y3 := (hB7.fz hs7 hne4 3).trans y3
            replace q4 := (hB7.cell hs7' hne 4).trans q4
            replace f4 := (hB7.fz hs7' hne 4).trans f4
            replace x4 := (hB7.cell hs7 hne4 4).trans x4
            replace y4 := (hB7.fz hs7 hne4 4).trans y4
            have hA7 := hA6s.trans hB7 (fun _ _ h => h)
            have hs7a : n4 < w7.heap.size := Nat.lt_of_lt_of_le hs7 hB7.size
            have hs7b : w.heap.size < w7.heap.size := by omega
            clear hB7 hR6s hA6s hs7 hs7'
            go_wp2
            refine bodyPost_ret (v := .agg #[.int .i64 (1), .int .i64 (1 + (k1 : Int)), .int .i64 ((k2 : Int)), .int .i64 ((k6 : Int)), .bool (decide ((0 : Int) < k7))]) (by simp [results, Try.results36, go_sem, q0, q1, q2, q3, q4]) rfl ⟨⟨1, 1 + (k1 : Int), (k2 : Int), (k6 : Int), decide ((0 : Int) < k7)⟩, rfl, ⟨⟨by dsimp only; omega, by dsimp only; omega⟩, ⟨by dsimp only; omega, by dsimp only; omega⟩, ⟨by dsimp only; omega, by dsimp only; omega⟩, ⟨by dsimp only; omega, by dsimp only; omega⟩⟩, ?_, ?_⟩
            · refine (Rd.high (L := w.heap.size) hR7 ?_ hRl).mono (by omega)
              repeat (with_reducible refine Agr.setCell ?_ (.inr (by first | exact Nat.le_refl _ | (show w.heap.size ≤ n4; omega))) _)
              with_reducible exact Agr.refl _ _
            · repeat (with_reducible refine Agr.setCell ?_ (.inl (by first | exact Nat.le_refl _ | (show w.heap.size ≤ n4; omega))) _)
              with_reducible exact hA7
          · have t5 : ((k5 : Int) == 0) = false := by rw [beq_eq_false_iff_ne]; omega
            clear h5
            go_wp2
            refine bodyPost_ret (v := .agg #[.int .i64 (1), .int .i64 (1 + (k1 : Int)), .int .i64 ((k2 : Int)), .int .i64 (9), .bool (false)]) (by simp [results, Try.results36, go_sem, q0, q1, q2, q3, q4]) rfl ⟨⟨1, 1 + (k1 : Int), (k2 : Int), 9, false⟩, rfl, ⟨⟨by dsimp only; omega, by dsimp only; omega⟩, ⟨by dsimp only; omega, by dsimp only; omega⟩, ⟨by dsimp only; omega, by dsimp only; omega⟩, ⟨by dsimp only; omega, by dsimp only; omega⟩⟩, ?_, ?_⟩
            · refine (Rd.high (L := w.heap.size) hR5 ?_ hRl).mono (by omega)
              repeat (with_reducible refine Agr.setCell ?_ (.inr (by first | exact Nat.le_refl _ | (show w.heap.size ≤ n4; omega))) _)
              with_reducible exact Agr.refl _ _
            · repeat (with_reducible refine Agr.setCell ?_ (.inl (by first | exact Nat.le_refl _ | (show w.heap.size ≤ n4; omega))) _)
              with_reducible exact hA5

      · have u4 : ((k3 : Int) == 4) = false := by rw [beq_eq_false_iff_ne]; omega
        clear h0 h3 h4
        go_wp2_with fail
        refine (spec_pickI 4 4 B R (m + 3) _ rfl (by omega) (by omega) (by omega) hR3).mono ?_
        rintro e w5 ⟨k5, rfl, hk5, hR5, hB5⟩
        replace q0 := (hB5.cell hs3' hne 0).trans q0
        replace f0 := (hB5.fz hs3' hne 0).trans f0
        replace x0 := (hB5.cell hs3 hne4 0).trans x0
        replace y0 := (hB5.fz hs3 hne4 0).trans y0
        replace q1 := (hB5.cell hs3' hne 1).trans q1
        replace f1 := (hB5.fz hs3' hne 1).trans f1
        replace x1 := (hB5.cell hs3 hne4 1).trans x1
        replace y1 := (hB5.fz hs3 hne4 1).trans y1
        replace q2 := (hB5.cell hs3' hne 2).trans q2
        replace f2 := (hB5.fz hs3' hne 2).trans f2
        replace x2 := (hB5.cell hs3 hne4 2).trans x2
        replace y2 := (hB5.fz hs3 hne4 2).trans y2
        replace q3 := (hB5.cell hs3' hne 3).trans q3
        replace f3 := (hB5.fz hs3' hne 3).trans f3
        replace x3 := (hB5.cell hs3 hne4 3).trans x3
        replace y3 := (hB5.fz hs3 hne4 3).trans y3
        replace q4 := (hB5.cell hs3' hne 4).trans q4
        replace f4 := (hB5.fz hs3' hne 4).trans f4
        replace x4 := (hB5.cell hs3 hne4 4).trans x4
        replace y4 := (hB5.fz hs3 hne4 4).trans y4
        have hA5 := hA3.trans hB5 (fun _ _ h => h)
        have hs5 : n4 < w5.heap.size := Nat.lt_of_lt_of_le hs3 hB5.size
        have hs5' : w.heap.size < w5.heap.size := by omega
        clear hB5 hA3 hR3
        by_cases h5 : k5 = 0
        · have t5 : ((k5 : Int) == 0) = true := by subst h5; rfl
          clear h5
          go_wp2_with fail
          refine (spec_pickI 5 5 B R (m + 4) _ rfl (by omega) (by omega) (by omega) hR5).mono ?_
          rintro e w6 ⟨k6, rfl, hk6, hR6, hB6⟩
          replace q0 := (hB6.cell hs5' hne 0).trans q0
          replace f0 := (hB6.fz hs5' hne 0).trans f0
          replace x0 := (hB6.cell hs5 hne4 0).trans x0
          replace y0 := (hB6.fz hs5 hne4 0).trans y0
          replace q1 := (hB6.cell hs5' hne 1).trans q1
          replace f1 := (hB6.fz hs5' hne 1).trans f1
          replace x1 := (hB6.cell hs5 hne4 1).trans x1
          replace y1 := (hB6.fz hs5 hne4 1).trans y1
          replace q2 := (hB6.cell hs5' hne 2).trans q2
          replace f2 := (hB6.fz hs5' hne 2).trans f2
          replace x2 := (hB6.cell hs5 hne4 2).trans x2
          replace y2 := (hB6.fz hs5 hne4 2).trans y2
          replace q3 := (hB6.cell hs5' hne 3).trans q3
          replace f3 := (hB6.fz hs5' hne 3).trans f3
          replace x3 := (hB6.cell hs5 hne4 3).trans x3
          replace y3 := (hB6.fz hs5 hne4 3).trans y3
          replace q4 := (hB6.cell hs5' hne 4).trans q4
          replace f4 := (hB6.fz hs5' hne 4).trans f4
          replace x4 := (hB6.cell hs5 hne4 4).trans x4
          replace y4 := (hB6.fz hs5 hne4 4).trans y4
          have hA6 := hA5.trans hB6 (fun _ _ h => h)
          have hs6a : n4 < w6.heap.size := Nat.lt_of_lt_of_le hs5 hB6.size
          have hs6b : w.heap.size < w6.heap.size := by omega
          go_wp2_with fail
          have hW := wrote_one x3 (.int .i64 k6)
          have hR6s : Rd (w6.setCell ⟨n4, 3, none⟩ (.int .i64 k6)) B R (m + 5) := hR6.agr hW.agr (by omega) (fun b hb e => by have := hR6.le; omega)
          have hA6s : Agr (· = R) w (w6.setCell ⟨n4, 3, none⟩ (.int .i64 k6)) := hA6.setCell (.inl (by show w.heap.size ≤ n4; omega)) _
          have x3n : (w6.setCell ⟨n4, 3, none⟩ (.int .i64 k6)).cell? ⟨n4, 3, none⟩ = some (.int .i64 k6) := hW.new_ 0 _ rfl
          replace q0 := (hW.agr.cell (b := w.heap.size) (by omega) (by omega) 0).trans q0
          replace f0 := (hW.frozen ⟨w.heap.size, 0, none⟩).trans f0
          replace x0 := (hW.old_ 0 (by simp)).trans x0
          replace y0 := (hW.frozen ⟨n4, 0, none⟩).trans y0
          replace q1 := (hW.agr.cell (b := w.heap.size) (by omega) (by omega) 1).trans q1
          replace f1 := (hW.frozen ⟨w.heap.size, 1, none⟩).trans f1
          replace x1 := (hW.old_ 1 (by simp)).trans x1
          replace y1 := (hW.frozen ⟨n4, 1, none⟩).trans y1
          replace q2 := (hW.agr.cell (b := w.heap.size) (by omega) (by omega) 2).trans q2
          replace f2 := (hW.frozen ⟨w.heap.size, 2, none⟩).trans f2
          replace x2 := (hW.old_ 2 (by simp)).trans x2
          replace y2 := (hW.frozen ⟨n4, 2, none⟩).trans y2
          replace q3 := (hW.agr.cell (b := w.heap.size) (by omega) (by omega) 3).trans q3
          replace f3 := (hW.frozen ⟨w.heap.size, 3, none⟩).trans f3
          replace y3 := (hW.frozen ⟨n4, 3, none⟩).trans y3
          replace q4 := (hW.agr.cell (b := w.heap.size) (by omega) (by omega) 4).trans q4
          replace f4 := (hW.frozen ⟨w.heap.size, 4, none⟩).trans f4
          replace x4 := (hW.old_ 4 (by simp)).trans x4
          replace y4 := (hW.frozen ⟨n4, 4, none⟩).trans y4
          replace x3 := x3n
          have hs7 : n4 < (w6.setCell ⟨n4, 3, none⟩ (.int .i64 k6)).heap.size := by simpa using hs6a
          have hs7' : w.heap.size < (w6.setCell ⟨n4, 3, none⟩ (.int .i64 k6)).heap.size := by simpa using hs6b
          clear hW x3n hB6 hR6 hA6 hA5 hR5
          refine (spec_pickI 3 3 B R (m + 5) _ rfl (by omega) (by omega) (by omega) hR6s).mono ?_
          rintro e w7 ⟨k7, rfl, hk7, hR7, hB7⟩
          replace q0 := (hB7.cell hs7' hne 0).trans q0
          replace f0 := (hB7.fz hs7' hne 0).trans f0
          replace x0 := (hB7.cell hs7 hne4 0).trans x0
          replace y0 := (hB7.fz hs7 hne4 0).trans y0
          replace q1 := (hB7.cell hs7' hne 1).trans q1
          replace f1 := (hB7.fz hs7' hne 1).trans f1
          replace x1 := (hB7.cell hs7 hne4 1).trans x1
          replace y1 := (hB7.fz hs7 hne4 1).trans y1
          replace q2 := (hB7.cell hs7' hne 2).trans q2
          replace f2 := (hB7.fz hs7' hne 2).trans f2
          replace x2 := (hB7.cell hs7 hne4 2).trans x2
          replace y2 := (hB7.fz hs7 hne4 2).trans y2
          replace q3 := (hB7.cell hs7' hne 3).trans q3
          replace f3 := (hB7.fz hs7' hne 3).trans f3
          replace x3 := (hB7.cell hs7 hne4 3).trans x3
          replace y3 := (hB7.fz hs7 hne4 3).trans y3
          replace q4 := (hB7.cell hs7' hne 4).trans q4
          replace f4 := (hB7.fz hs7' hne 4).trans f4
          replace x4 := (hB7.cell hs7 hne4 4).trans x4
          replace y4 := (hB7.fz hs7 hne4 4).trans y4
          have hA7 := hA6s.trans hB7 (fun _ _ h => h)
          have hs7a : n4 < w7.heap.size := Nat.lt_of_lt_of_le hs7 hB7.size
          have hs7b : w.heap.size < w7.heap.size := by omega
          clear hB7 hR6s hA6s hs7 hs7'
          go_wp2
          refine bodyPost_ret (v := .agg #[.int .i64 (1), .int .i64 (1 + (k1 : Int)), .int .i64 ((k2 : Int)), .int .i64 ((k6 : Int)), .bool (decide ((0 : Int) < k7))]) (by simp [results, Try.results36, go_sem, q0, q1, q2, q3, q4]) rfl ⟨⟨1, 1 + (k1 : Int), (k2 : Int), (k6 : Int), decide ((0 : Int) < k7)⟩, rfl, ⟨⟨by dsimp only; omega, by dsimp only; omega⟩, ⟨by dsimp only; omega, by dsimp only; omega⟩, ⟨by dsimp only; omega, by dsimp only; omega⟩, ⟨by dsimp only; omega, by dsimp only; omega⟩⟩, ?_, ?_⟩
          · refine (Rd.high (L := w.heap.size) hR7 ?_ hRl).mono (by omega)
            repeat (with_reducible refine Agr.setCell ?_ (.inr (by first | exact Nat.le_refl _ | (show w.heap.size ≤ n4; omega))) _)
            with_reducible exact Agr.refl _ _
          · repeat (with_reducible refine Agr.setCell ?_ (.inl (by first | exact Nat.le_refl _ | (show w.heap.size ≤ n4; omega))) _)
            with_reducible exact hA7
        · have t5 : ((k5 : Int) == 0) = false := by rw [beq_eq_false_iff_ne]; omega
          clear h5
          go_wp2
          refine bodyPost_ret (v := .agg #[.int .i64 (1), .int .i64 (1 + (k1 : Int)), .int .i64 ((k2 : Int)), .int .i64 (9), .bool (false)]) (by simp [results, Try.results36, go_sem, q0, q1, q2, q3, q4]) rfl ⟨⟨1, 1 + (k1 : Int), (k2 : Int), 9, false⟩, rfl, ⟨⟨by dsimp only; omega, by dsimp only; omega⟩, ⟨by dsimp only; omega, by dsimp only; omega⟩, ⟨by dsimp only; omega, by dsimp only; omega⟩, ⟨by dsimp only; omega, by dsimp only; omega⟩⟩, ?_, ?_⟩
          · refine (Rd.high (L := w.heap.size) hR5 ?_ hRl).mono (by omega)
            repeat (with_reducible refine Agr.setCell ?_ (.inr (by first | exact Nat.le_refl _ | (show w.heap.size ≤ n4; omega))) _)
            with_reducible exact Agr.refl _ _
          · repeat (with_reducible refine Agr.setCell ?_ (.inl (by first | exact Nat.le_refl _ | (show w.heap.size ≤ n4; omega))) _)
            with_reducible exact hA5

end Go.Proofs.Ytohkoogmbfaceaa
namespace Go.Proofs.Ytohkoogmbfaceaa
set_option linter.unusedVariables false
set_option linter.unusedSimpArgs false
open Go.RowKit Go.Maps
set_option maxHeartbeats 400000
theorem Try.info3_event : (Try.prog.info? 34).map (fun i => (i.zero, i.size, i.bytes)) = some (some (.agg #[.int .i64 0, .int .i64 0, .int .i64 0, .int .i64 0, .bool false]), 5, 40) := by kernel_rfl
/-- a row of events of one's own, in a block from base on -/
def OwnE (w : World) (base : Nat) (v : Value) (xs : List Ev) : Prop := w.ownsRow base 34 5 v xs.length (evs xs)
theorem OwnE.below {w w' : World} {base B : Nat} {v : Value} {xs : List Ev} (h : OwnE w base v xs) (hb : Below B w w') (hB : w.heap.size ≤ B) : OwnE w' base v xs := ownsRow_keep h fun b _ hl => hb.block b (by omega)
theorem OwnE.agr {w w' : World} {base : Nat} {v : Value} {xs : List Ev} {S : Nat → Prop} (h : OwnE w base v xs) (hb : Agr S w w') (hS : ∀ b, base ≤ b → ¬ S b) : OwnE w' base v xs := by
  refine ownsRow_keep h fun b hbl hl => hb.block b hl (hS b ?_)
  exact (World.ownsRow.lt h b hbl).1
theorem OwnE.mono {w : World} {base base' : Nat} {v : Value} {xs : List Ev} (h : OwnE w base v xs) (hb : base' ≤ base) : OwnE w base' v xs := World.ownsRow.mono h hb
theorem OwnE.nil (w : World) (base : Nat) (hb : base ≤ w.heap.size) : OwnE (w.alloc (.cells #[] 34)) base (.slice (some ⟨w.heap.size, 0, none⟩) 0 0) [] := World.ownsRow_lit w #[] 0 hb (by unfold maxLen; omega) rfl
theorem OwnE.snoc {w : World} {base g n c : Nat} {xs : List Ev} {x : Ev} (hn : n = xs.length + 1) (h : w.ownsRow base 34 5 (.slice (some ⟨g, 0, none⟩) (xs.length + 1) c) (xs.length + 1) (evs xs ++ x.vs)) : OwnE w base (.slice (some ⟨g, 0, none⟩) n c) (xs ++ [x]) := by
  subst hn
  unfold OwnE
  rw [List.length_append, evs, List.flatMap_append, show [x].flatMap Ev.vs = x.vs by simp]
  exact h
theorem OwnE.alloc {w : World} {base : Nat} {v : Value} {xs : List Ev} (h : OwnE w base v xs) (o : Obj) : OwnE (w.alloc o) base v xs := h.below (B := w.heap.size) ((Below.refl _ _).alloc (Nat.le_refl _) _) (Nat.le_refl _)
theorem new_fine : stFine ⟨flashNew, disk0⟩ := by
  refine ⟨⟨rfl, fun b hb => ?_⟩, rfl, ?_⟩
  · have := List.eq_of_mem_replicate hb
    subst this
    refine ⟨rfl, by decide, by decide, ?_⟩
    decide
  · decide
/-- what l71Play answers -/
def PlayPost (B R m : Nat) (w : World) (e : Ending) (w' : World) : Prop :=
  ∃ (v : Value) (A D : Option Addr) (c lo hi : Nat) (s : St) (xs : List Ev), e = .returned (.tuple #[v, .agg #[.slice A 4 c, .slice D 6 6]]) ∧ w.heap.size ≤ lo ∧ hi ≤ w'.heap.size ∧ 4 ≤ c ∧
    OSt w' lo hi A s.flash D s.disk ∧ stFine s ∧ OwnE w' hi v xs ∧ xs.length ≤ 58 ∧ (∀ x ∈ xs, evFine x) ∧ Rd w' B R (m + 500) ∧ Agr (· = R) w w'
set_option maxHeartbeats 4000000 in
set_option maxRecDepth 100000 in
theorem spec_l71Play (B R m : Nat) (w : World) (hm : m ≤ 800000) (hR : Rd w B R m) :
    Calls Try.prog 34 #[.pointer (some ⟨R, 0, none⟩)] w (PlayPost B R m w) := by
  obtain ⟨ib, hib, hbz0, hbz1, hbz2⟩ := info_parts Try.info3_event
  have hRl := hR.lt
  have hq := Row.new w #[.slice none 0 0, .slice none 0 0] 28
  obtain ⟨q0, f0⟩ := hq.at0 (j := 0) rfl
  obtain ⟨q1, f1⟩ := hq.at0 (j := 1) rfl
  have hR0 := hR.alloc (.cells #[.slice none 0 0, .slice none 0 0] 28)
  have hs0 : w.heap.size < (w.alloc (.cells #[.slice none 0 0, .slice none 0 0] 28)).heap.size := by simp
  have hB0 : Below w.heap.size w (w.alloc (.cells #[.slice none 0 0, .slice none 0 0] 28)) := by (repeat (first | (with_reducible exact Below.refl _ _) | (with_reducible assumption) | (refine Below.setCell ?_ (by first | omega | exact hB.size | exact hb.size | (have h := hB.size; simp; omega) | (have h := hb.size; simp; omega) | (simp; omega) | simp) _) | (refine Below.alloc ?_ (by first | omega | exact hB.size | exact hb.size | (have h := hB.size; simp; omega) | (have h := hb.size; simp; omega) | (simp; omega) | simp) _) | (refine Below.drew ?_)))
  have hne : ¬ w.heap.size = R := by omega
  clear hq
  go_enter Try.func34, Try.ntmps34
  go_wp2_with fail
  refine (spec_StoreNew _).mono ?_
  rintro e w1 ⟨A, c, D, rfl, hc, hO, hb⟩
  replace q0 := (hb.cell (p := ⟨w.heap.size, 0, none⟩) hs0).trans q0
  replace q1 := (hb.cell (p := ⟨w.heap.size, 1, none⟩) hs0).trans q1
  replace f0 := (hb.frozen (p := ⟨w.heap.size, 0, none⟩) hs0).trans f0
  replace f1 := (hb.frozen (p := ⟨w.heap.size, 1, none⟩) hs0).trans f1
  have hR1 := hR0.below hb (Nat.le_refl _)
  have hs1 : w.heap.size < w1.heap.size := Nat.lt_of_lt_of_le hs0 hb.size
  have hB1 : Below w.heap.size w w1 := hB0.trans (hb.mono (by simp))
  replace hO : OSt w1 (w.heap.size + 1) w1.heap.size A flashNew D disk0 := hO.mono (by simp) (Nat.le_refl _)
  clear hb hB0 hs0 hR0
  obtain ⟨W2, hW2⟩ : ∃ W, W = (w1.alloc (.cells #[.slice A 4 c, .slice D 6 6] 28)).alloc (.cells #[] 34) := ⟨_, rfl⟩
  have hBW : Below w1.heap.size w1 W2 := by rw [hW2]; (repeat (first | (with_reducible exact Below.refl _ _) | (with_reducible assumption) | (refine Below.setCell ?_ (by first | omega | exact hB.size | exact hb.size | (have h := hB.size; simp; omega) | (have h := hb.size; simp; omega) | (simp; omega) | simp) _) | (refine Below.alloc ?_ (by first | omega | exact hB.size | exact hb.size | (have h := hB.size; simp; omega) | (have h := hb.size; simp; omega) | (simp; omega) | simp) _) | (refine Below.drew ?_)))
  have hM := (Row.new w1 #[.slice A 4 c, .slice D 6 6] 28).alloc (.cells #[] 34)
  rw [← hW2] at hM
  obtain ⟨b0, b2⟩ := hM.at0 (j := 0) rfl
  obtain ⟨b1, b3⟩ := hM.at0 (j := 1) rfl
  have hE : OwnE W2 (w1.heap.size + 1) (.slice (some ⟨w1.heap.size + 1, 0, none⟩) 0 0) [] := by
    have := OwnE.nil (w1.alloc (.cells #[.slice A 4 c, .slice D 6 6] 28)) (w1.heap.size + 1) (by simp)
    simp only [World.size_alloc] at this
    rw [hW2]; exact this
  replace q0 := (hBW.cell (p := ⟨w.heap.size, 0, none⟩) hs1).trans q0
  replace q1 := (hBW.cell (p := ⟨w.heap.size, 1, none⟩) hs1).trans q1
  replace f0 := (hBW.frozen (p := ⟨w.heap.size, 0, none⟩) hs1).trans f0
  replace f1 := (hBW.frozen (p := ⟨w.heap.size, 1, none⟩) hs1).trans f1
  have hR2 := hR1.below hBW (Nat.le_refl _)
  have hO2 := hO.below hBW (Nat.le_refl _)
  have hs2 : w1.heap.size < W2.heap.size := by rw [hW2]; simp; omega
  have hA2 : Agr (· = R) w W2 := Agr.of_below (hB1.trans (hBW.mono (by omega)))
  have HW2 := Lib.hid hW2
  clear hBW hM hW2 hR1 hO hB1
  go_wp2_with fail
  rw [← HW2.out]
  refine (spec_pickI 58 58 B R m _ rfl (by omega) (by omega) (by omega) hR2).mono ?_
  rintro e w3 ⟨k, rfl, hk, hR3, hA3⟩
  generalize w1.heap.size = n1 at *
  have hRn : R < n1 := by omega
  replace q0 := (hA3.cell (b := w.heap.size) (by omega) (by omega) 0).trans q0
  replace q1 := (hA3.cell (b := w.heap.size) (by omega) (by omega) 1).trans q1
  replace f0 := (hA3.fz (b := w.heap.size) (by omega) (by omega) 0).trans f0
  replace f1 := (hA3.fz (b := w.heap.size) (by omega) (by omega) 1).trans f1
  replace b0 := (hA3.cell (b := n1) (by omega) (by omega) 0).trans b0
  replace b1 := (hA3.cell (b := n1) (by omega) (by omega) 1).trans b1
  replace b2 := (hA3.fz (b := n1) (by omega) (by omega) 0).trans b2
  replace b3 := (hA3.fz (b := n1) (by omega) (by omega) 1).trans b3
  have hO3 : OSt w3 (w.heap.size + 1) n1 A flashNew D disk0 := hO2.keep fun b h1 h2 hl => hA3.block b hl (by omega)
  have hE3 : OwnE w3 (n1 + 1) (.slice (some ⟨n1 + 1, 0, none⟩) 0 0) [] := hE.agr hA3 (by intro b h1 h2; omega)
  have hs3 : n1 < w3.heap.size := Nat.lt_of_lt_of_le hs2 hA3.size
  have hA3' := hA2.trans hA3 (fun _ _ h => h)
  clear hA3 hA2 hs2 hO2 hE hR2
  go_wp2
  go_loopw [5, 6] (fun t5 t6 wr => ∃ (j p : Nat) (xs : List Ev) (s : St), t6 = .int .i64 j ∧ j ≤ 57 ∧ xs.length + j ≤ 58 ∧ p + 7 * j ≤ m + 400 ∧ OwnE wr (n1 + 1) t5 xs ∧ Hid (∀ x ∈ xs, evFine x) ∧ Hid (stFine s) ∧
    OSt wr (w.heap.size + 1) n1 A s.flash D s.disk ∧ Rd wr B R p ∧ Agr (· = R) w wr ∧ n1 < wr.heap.size ∧
    (wr.cell? ⟨n1, 0, none⟩ = some (.slice A 4 c) ∧ wr.cell? ⟨n1, 1, none⟩ = some (.slice D 6 6) ∧ wr.frozen? ⟨n1, 0, none⟩ = false ∧ wr.frozen? ⟨n1, 1, none⟩ = false) ∧
    (wr.cell? ⟨w.heap.size, 0, none⟩ = some (.slice none 0 0) ∧ wr.cell? ⟨w.heap.size, 1, none⟩ = some (.slice none 0 0) ∧ wr.frozen? ⟨w.heap.size, 0, none⟩ = false ∧ wr.frozen? ⟨w.heap.size, 1, none⟩ = false)) (fun _ t6 _ => (intOf t6).toNat)
  case atStart => exact ⟨k, m + 1, [], ⟨flashNew, disk0⟩, rfl, by omega, by simp; omega, by omega, hE3, Lib.hid (by simp), Lib.hid new_fine, hO3, hR3, hA3', hs3, ⟨b0, b1, b2, b3⟩, ⟨q0, q1, f0, f1⟩⟩
  case round =>
    clear b0 b1 b2 b3 q0 q1 f0 f1
    obtain ⟨j, p, xs, s, rfl, hj, hxl, hp, hEk, hXs, hst, hOk, hRk, hAk, hsk, ⟨b0, b1, b2, b3⟩, ⟨q0, q1, f0, f1⟩⟩ := hrel
    by_cases hj0 : 0 < j
    · have hj1 : (0 : Int) < j := by omega
      go_wp2_with fail
      refine (spec_l71Event B R p _ (by omega) hRk).mono ?_
      rintro e w4 ⟨x, rfl, hx, hR4, hA4⟩
      have hs4 : n1 < w4.heap.size := Nat.lt_of_lt_of_le hsk hA4.size
      have hO4 : OSt w4 (w.heap.size + 1) n1 A s.flash D s.disk := hOk.keep fun b h1 h2 hl => hA4.block b hl (by omega)
      have hE4 : OwnE w4 (n1 + 1) u5 xs := hEk.agr hA4 (by intro b h1 h2; omega)
      have hA4' := hAk.trans hA4 (fun _ _ h => h)
      replace q0 := (hA4.cell (b := w.heap.size) (by omega) (by omega) 0).trans q0
      replace q1 := (hA4.cell (b := w.heap.size) (by omega) (by omega) 1).trans q1
      replace f0 := (hA4.fz (b := w.heap.size) (by omega) (by omega) 0).trans f0
      replace f1 := (hA4.fz (b := w.heap.size) (by omega) (by omega) 1).trans f1
      replace b0 := (hA4.cell (b := n1) (by omega) (by omega) 0).trans b0
      replace b1 := (hA4.cell (b := n1) (by omega) (by omega) 1).trans b1
      replace b2 := (hA4.fz (b := n1) (by omega) (by omega) 0).trans b2
      replace b3 := (hA4.fz (b := n1) (by omega) (by omega) 1).trans b3
      have hQ : ∀ q, u5.ownBlock = some q → n1 + 1 ≤ q ∧ q < w4.heap.size := fun q e => World.ownsRow.lt hE4 q e
      have hE6 : OwnE ((w4.alloc (.cells #[.int .i64 x.kind, .int .i64 x.a, .int .i64 x.b, .int .i64 x.c, .bool x.torn] 34)).alloc (.cells #[.int .i64 x.kind, .int .i64 x.a, .int .i64 x.b, .int .i64 x.c, .bool x.torn] 34)) (n1 + 1) u5 xs := (hE4.alloc _).alloc _
      have hx4 := (Row.new w4 #[.int .i64 x.kind, .int .i64 x.a, .int .i64 x.b, .int .i64 x.c, .bool x.torn] 34).alloc (.cells #[.int .i64 x.kind, .int .i64 x.a, .int .i64 x.b, .int .i64 x.c, .bool x.torn] 34)
      obtain ⟨x0, y0⟩ := hx4.at0 (j := 0) rfl
      obtain ⟨x1, y1⟩ := hx4.at0 (j := 1) rfl
      obtain ⟨x2, y2⟩ := hx4.at0 (j := 2) rfl
      obtain ⟨x3, y3⟩ := hx4.at0 (j := 3) rfl
      obtain ⟨x4, y4⟩ := hx4.at0 (j := 4) rfl
      have hAa : Agr (fun b => n1 + 1 ≤ b) w4 ((w4.alloc (.cells #[.int .i64 x.kind, .int .i64 x.a, .int .i64 x.b, .int .i64 x.c, .bool x.torn] 34)).alloc (.cells #[.int .i64 x.kind, .int .i64 x.a, .int .i64 x.b, .int .i64 x.c, .bool x.torn] 34)) := ((Agr.refl _ _).alloc _).alloc _
      have hs6 : ((w4.alloc (.cells #[.int .i64 x.kind, .int .i64 x.a, .int .i64 x.b, .int .i64 x.c, .bool x.torn] 34)).alloc (.cells #[.int .i64 x.kind, .int .i64 x.a, .int .i64 x.b, .int .i64 x.c, .bool x.torn] 34)).heap.size = w4.heap.size + 1 + 1 := by simp
      have hrow := Row.new (w4.alloc (.cells #[.int .i64 x.kind, .int .i64 x.a, .int .i64 x.b, .int .i64 x.c, .bool x.torn] 34)) #[.int .i64 x.kind, .int .i64 x.a, .int .i64 x.b, .int .i64 x.c, .bool x.torn] 34
      simp only [World.size_alloc] at hrow
      have hnews : ∀ j u, x.vs[j]? = some u → ((w4.alloc (.cells #[.int .i64 x.kind, .int .i64 x.a, .int .i64 x.b, .int .i64 x.c, .bool x.torn] 34)).alloc (.cells #[.int .i64 x.kind, .int .i64 x.a, .int .i64 x.b, .int .i64 x.c, .bool x.torn] 34)).cell? ((⟨w4.heap.size + 1, 0, none⟩ : Addr).add j) = some u := hrow.news
      clear hE4 hA4 hEk hOk hRk hAk hx4 hrow
      have hBa : Below w4.heap.size w4 ((w4.alloc (.cells #[.int .i64 x.kind, .int .i64 x.a, .int .i64 x.b, .int .i64 x.c, .bool x.torn] 34)).alloc (.cells #[.int .i64 x.kind, .int .i64 x.a, .int .i64 x.b, .int .i64 x.c, .bool x.torn] 34)) := by (repeat (first | (with_reducible exact Below.refl _ _) | (with_reducible assumption) | (refine Below.setCell ?_ (by first | omega | exact hB.size | exact hb.size | (have h := hB.size; simp; omega) | (have h := hb.size; simp; omega) | (simp; omega) | simp) _) | (refine Below.alloc ?_ (by first | omega | exact hB.size | exact hb.size | (have h := hB.size; simp; omega) | (have h := hb.size; simp; omega) | (simp; omega) | simp) _) | (refine Below.drew ?_)))
      have Qq0 := (hBa.cell (p := ⟨w.heap.size, 0, none⟩) (by show w.heap.size < w4.heap.size; omega)).trans q0
      have Qq1 := (hBa.cell (p := ⟨w.heap.size, 1, none⟩) (by show w.heap.size < w4.heap.size; omega)).trans q1
      have Qf0 := (hBa.frozen (p := ⟨w.heap.size, 0, none⟩) (by show w.heap.size < w4.heap.size; omega)).trans f0
      have Qf1 := (hBa.frozen (p := ⟨w.heap.size, 1, none⟩) (by show w.heap.size < w4.heap.size; omega)).trans f1
      have Qb0 := (hBa.cell (p := ⟨n1, 0, none⟩) (by show n1 < w4.heap.size; omega)).trans b0
      have Qb1 := (hBa.cell (p := ⟨n1, 1, none⟩) (by show n1 < w4.heap.size; omega)).trans b1
      have Qb2 := (hBa.frozen (p := ⟨n1, 0, none⟩) (by show n1 < w4.heap.size; omega)).trans b2
      have Qb3 := (hBa.frozen (p := ⟨n1, 1, none⟩) (by show n1 < w4.heap.size; omega)).trans b3
      go_wp2_with (at_builtin; refine wpList_append_lies _ rfl (.tmp 18) (.tmp 20) _ rfl (n1 + 1) 34 ib _ 5 40 Try.underlying23 hib hbz0 hbz1 hbz2 rfl (by omega) u5 xs.length (evs xs) rfl hE6 ⟨w4.heap.size + 1, 0, none⟩ 1 1 x.vs rfl rfl hnews (by simp [Value.oneCell', Ev.vs]) (by omega) (by unfold maxLen; omega) (by omega) (by simp; omega) (w4.heap.size + 1 + 1) (by simp) ?_; intro g2 c2 w7 hown2 hgrow2 hat2 hlt2; have hAg := (Agr.refl (fun b => u5.ownBlock = some b) _).grown hgrow2 (fun g hg => .inr hg); have zq0 := (hAg.cell (b := w.heap.size) (by omega) (fun e => by have := hQ _ e; omega) 0).trans Qq0; have zq1 := (hAg.cell (b := w.heap.size) (by omega) (fun e => by have := hQ _ e; omega) 1).trans Qq1; have zf0 := (hAg.fz (b := w.heap.size) (by omega) (fun e => by have := hQ _ e; omega) 0).trans Qf0; have zf1 := (hAg.fz (b := w.heap.size) (by omega) (fun e => by have := hQ _ e; omega) 1).trans Qf1; have zb0 := (hAg.cell (b := n1) (by omega) (fun e => by have := hQ _ e; omega) 0).trans Qb0; have zb1 := (hAg.cell (b := n1) (by omega) (fun e => by have := hQ _ e; omega) 1).trans Qb1; have zb2 := (hAg.fz (b := n1) (by omega) (fun e => by have := hQ _ e; omega) 0).trans Qb2; have zb3 := (hAg.fz (b := n1) (by omega) (fun e => by have := hQ _ e; omega) 1).trans Qb3; have zx0 := (hAg.cell (b := w4.heap.size) (by omega) (fun e => by have := hQ _ e; omega) 0).trans x0; have zx1 := (hAg.cell (b := w4.heap.size) (by omega) (fun e => by have := hQ _ e; omega) 1).trans x1; have zx2 := (hAg.cell (b := w4.heap.size) (by omega) (fun e => by have := hQ _ e; omega) 2).trans x2; have zx3 := (hAg.cell (b := w4.heap.size) (by omega) (fun e => by have := hQ _ e; omega) 3).trans x3; have zx4 := (hAg.cell (b := w4.heap.size) (by omega) (fun e => by have := hQ _ e; omega) 4).trans x4; clear b0 b1 b2 b3 q0 q1 f0 f1 x0 x1 x2 x3 x4 y0 y1 y2 y3 y4)
      have hAll : Agr (fun b => n1 + 1 ≤ b) w4 w7 := hAa.trans hAg (fun b _ h => (hQ _ h).1)
      have hO7 : OSt w7 (w.heap.size + 1) n1 A s.flash D s.disk := hO4.keep fun b h1 h2 hl => hAll.block b hl (by omega)
      have hR7 : Rd w7 B R (p + 7) := hR4.agr hAll (by omega) (fun b hb e => by have := hR4.le; omega)
      have hA7 : Agr (· = R) w w7 := hA4'.trans hAll (fun b hb e => by omega)
      have hs7 : n1 < w7.heap.size := Nat.lt_of_lt_of_le hs4 hAll.size
      have hE7 : OwnE w7 (n1 + 1) (.slice (some ⟨g2, 0, none⟩) (xs.length + 1) c2) (xs ++ [x]) := OwnE.snoc rfl hown2
      clear hAa hAg hAll hO4 hR4 hA4' hQ hE6 hnews hBa Qq0 Qq1 Qf0 Qf1 Qb0 Qb1 Qb2 Qb3 hown2 hgrow2 hat2 hs6
      refine (spec_l21Do s x A D c 6 (w.heap.size + 1) n1 _ hst.out (by omega) hO7).mono ?_
      rintro e w8 ⟨rfl, hO8, hA8⟩
      have hst8 := Lib.hid (doEv_fine hst.out x)
      generalize doEv s x = s8 at *
      replace zq0 := (hA8.cell (b := w.heap.size) (by omega) (by omega) 0).trans zq0
      replace zq1 := (hA8.cell (b := w.heap.size) (by omega) (by omega) 1).trans zq1
      replace zf0 := (hA8.fz (b := w.heap.size) (by omega) (by omega) 0).trans zf0
      replace zf1 := (hA8.fz (b := w.heap.size) (by omega) (by omega) 1).trans zf1
      replace zb0 := (hA8.cell (b := n1) (by omega) (by omega) 0).trans zb0
      replace zb1 := (hA8.cell (b := n1) (by omega) (by omega) 1).trans zb1
      replace zb2 := (hA8.fz (b := n1) (by omega) (by omega) 0).trans zb2
      replace zb3 := (hA8.fz (b := n1) (by omega) (by omega) 1).trans zb3
      have hR8 : Rd w8 B R (p + 7) := hR7.agr hA8 (by omega) (fun b hb e => by have := hR7.le; omega)
      have hE8 : OwnE w8 (n1 + 1) (.slice (some ⟨g2, 0, none⟩) (xs.length + 1) c2) (xs ++ [x]) := hE7.agr hA8 (by intro b h1 h2; omega)
      have hAw8 : Agr (· = R) w w8 := hA7.trans hA8 (fun b hb e => by omega)
      have hs8 : n1 < w8.heap.size := Nat.lt_of_lt_of_le hs7 hA8.size
      clear hO7 hR7 hE7 hA7 hA8 hs7 zx0 zx1 zx2 zx3 zx4
      have hW : Wrote w8 ((w8.setCell ⟨n1, 0, none⟩ (.slice A 4 c)).setCell ⟨n1, 1, none⟩ (.slice D 6 6)) n1 0 [.slice A 4 c, .slice D 6 6] := wrote_setRow n1 [.slice A 4 c, .slice D 6 6] 0 w8 (fun j hj => by
        match j, hj with
        | 0, _ => exact ⟨_, zb0⟩
        | 1, _ => exact ⟨_, zb1⟩)
      have hO9 : OSt _ (w.heap.size + 1) n1 A s8.flash D s8.disk := hO8.keep fun b h1 h2 _ => hW.block b (by omega)
      have hR9 : Rd _ B R (p + 7) := hR8.agr hW.agr (by omega) (fun b hb e => by have := hR8.le; omega)
      have hE9 : OwnE _ (n1 + 1) (.slice (some ⟨g2, 0, none⟩) (xs.length + 1) c2) (xs ++ [x]) := hE8.agr hW.agr (by intro b h1 h2; omega)
      have hA9 : Agr (· = R) w _ := hAw8.trans (S' := (· = n1)) hW.agr (fun b hb e => by omega)
      have t0 := hW.new_ 0 _ rfl
      have t1 := hW.new_ 1 _ rfl
      have t2 := (hW.frozen ⟨n1, 0, none⟩).trans zb2
      have t3 := (hW.frozen ⟨n1, 1, none⟩).trans zb3
      have s0 := (hW.agr.cell (b := w.heap.size) (by omega) (by omega) 0).trans zq0
      have s1 := (hW.agr.cell (b := w.heap.size) (by omega) (by omega) 1).trans zq1
      have s2 := (hW.frozen ⟨w.heap.size, 0, none⟩).trans zf0
      have s3 := (hW.frozen ⟨w.heap.size, 1, none⟩).trans zf1
      have hss := hW.size
      have hXs2 := Lib.hid (show ∀ y ∈ xs ++ [x], evFine y from fun y hy => by
        rcases List.mem_append.1 hy with hy | hy
        · exact hXs.out y hy
        · rw [List.mem_singleton] at hy; subst hy; exact hx)
      have hxl2 : (xs ++ [x]).length + (j - 1) ≤ 58 := by rw [List.length_append]; simp only [List.length_cons, List.length_nil]; omega
      have e1 : IntKind.i64.wrap ((j : Int) - 1) = (j : Int) - 1 := IntWalk.i64_in _ (by omega)
      have e2 : ((j - 1 : Nat) : Int) = (j : Int) - 1 := by omega
      clear hW hO8 hR8 hE8 hAw8 hXs
      have E2 := Lib.hid e2
      clear e2
      go_wp2
      go_roundw
      (case rel => exact ⟨j - 1, p + 7, xs ++ [x], s8, by rw [E2.out], by omega, hxl2, by omega, hE9, hXs2, hst8, hO9, hR9, hA9, by omega, ⟨t0, t1, t2, t3⟩, ⟨s0, s1, s2, s3⟩⟩)
      (case measure => simp [intOf]; omega)
    · obtain rfl : j = 0 := by omega
      go_wp2
      have d0 : wr.drew.cell? ⟨n1, 0, none⟩ = some (.slice A 4 c) := b0
      have d1 : wr.drew.cell? ⟨n1, 1, none⟩ = some (.slice D 6 6) := b1
      have d2 : wr.drew.cell? ⟨w.heap.size, 0, none⟩ = some (.slice none 0 0) := q0
      have d3 : wr.drew.cell? ⟨w.heap.size, 1, none⟩ = some (.slice none 0 0) := q1
      go_region
      all_goals
        go_wp2
        have hF : Agr (· = w.heap.size) wr ((wr.setCell ⟨w.heap.size, 0, none⟩ (.slice A 4 c)).setCell ⟨w.heap.size, 1, none⟩ (.slice D 6 6)).drew := Agr.drew (Agr.setCell (S := fun b => b = w.heap.size) (Agr.setCell (S := fun b => b = w.heap.size) (Agr.refl _ _) (p := ⟨w.heap.size, 0, none⟩) (.inr rfl) _) (p := ⟨w.heap.size, 1, none⟩) (.inr rfl) _)
        refine bodyPost_ret (v := .tuple #[u5, .agg #[.slice A 4 c, .slice D 6 6]]) (by simp [results, Try.results34, go_sem, q0, q1]) rfl ⟨u5, A, D, c, w.heap.size + 1, n1, s, xs, rfl, by omega, ?_, hc, ?_, hst.out, ?_, by omega, hXs.out, ?_, ?_⟩
        · have := hF.size; omega
        · exact hOk.keep fun b h1 h2 hl => hF.block b hl (by omega)
        · exact (hEk.agr hF (by intro b h1 h2; omega)).mono (by omega)
        · exact (hRk.agr hF (by omega) (fun b hb e => by have := hRk.le; omega)).mono (by omega)
        · exact hAk.trans hF (fun b hb e => by omega)
end Go.Proofs.Ytohkoogmbfaceaa
namespace Go.Proofs.Ytohkoogmbfaceaa
set_option linter.unusedVariables false
set_option linter.unusedSimpArgs false
open Go.RowKit Go.Maps
set_option maxHeartbeats 400000
theorem Row.drop {w : World} {b o : Nat} {vs : List Value} (h : Row w (some ⟨b, o, none⟩) vs) (k : Nat) : Row w (some ⟨b, o + k, none⟩) (vs.drop k) := fun hn => by
  obtain ⟨b', o', he, hc⟩ := h (by rintro rfl; simp at hn)
  cases he
  refine ⟨b, o + k, rfl, fun j u hj => ?_⟩
  rw [List.getElem?_drop] at hj
  have := hc (k + j) u hj
  rwa [← Nat.add_assoc] at this
/-- block i's pages lie in the same block of memory as before -/
theorem Apt.same {lo hi i : Nat} {A : Option Addr} {hs : List (Option Addr × Nat)} {x y : Option Addr × Nat} (h : Apt lo hi A hs) (hy : hs[i]? = some y) (hx : ∀ b, blk x.1 b → blk y.1 b) : Apt lo hi A (hs.set i x) := by
  have hl := (List.getElem?_eq_some_iff.1 hy).1
  have key : ∀ (j : Nat) (z : Option Addr × Nat) (b : Nat), (hs.set i x)[j]? = some z → blk z.1 b → ∃ z', hs[j]? = some z' ∧ blk z'.1 b := fun j z b hz hb => by
    by_cases hj : j = i
    · subst hj
      rw [List.getElem?_set_self hl] at hz
      cases hz
      exact ⟨y, hy, hx b hb⟩
    · rw [List.getElem?_set_ne (by omega)] at hz
      exact ⟨z, hz, hb⟩
  refine ⟨h.top, fun j z b hz hb => ?_, fun j m z u b hz hu h1 h2 => ?_⟩
  · obtain ⟨z', a1, a2⟩ := key j z b hz hb
    exact h.in_ j z' b a1 a2
  · obtain ⟨z', a1, a2⟩ := key j z b hz h1
    obtain ⟨u', b1, b2⟩ := key m u b hu h2
    exact h.two j m z' u' b a1 b1 a2 b2
theorem Bks.reader {w w' : World} {A : Option Addr} {f : List Bk} {hs : List (Option Addr × Nat)} {R lo hi : Nat} (h : Bks w A f hs) (ha : Agr (· = R) w w') (hApt : Apt lo hi A hs) (hR : R < lo) : Bks w' A f hs :=
  h.keep fun b hb hl => ha.block b hl (fun e => by
    subst e
    rcases hb with hb | ⟨x, hx, hb⟩
    · have := hApt.top _ hb; omega
    · obtain ⟨i, hi'⟩ := List.getElem?_of_mem hx
      have := hApt.in_ i x _ hi' hb; omega)
end Go.Proofs.Ytohkoogmbfaceaa
namespace Go.Proofs.Ytohkoogmbfaceaa
set_option linter.unusedVariables false
set_option linter.unusedSimpArgs false
open Go.RowKit Go.Maps
set_option maxHeartbeats 400000
/-- a code that can be read -/
structure Code (w : World) (A : Option Addr) (bs : List Nat) (c : Nat) : Prop where
  len : bs.length ≤ c
  cap : c ≤ 9223372036854775807
  byte : ∀ b ∈ bs, b < 256
  row : RRow w A (bytes bs)
end Go.Proofs.Ytohkoogmbfaceaa
namespace Go.Proofs.Ytohkoogmbfaceaa
set_option linter.unusedVariables false
set_option linter.unusedSimpArgs false
open Go.RowKit Go.Maps
set_option maxHeartbeats 400000
end Go.Proofs.Ytohkoogmbfaceaa
namespace Go.Proofs.Ytohkoogmbfaceaa
set_option linter.unusedVariables false
set_option linter.unusedSimpArgs false
open Go.RowKit Go.Maps
set_option maxHeartbeats 400000
theorem wiped_b {f : List Bk} {i : Nat} {b : Bk} (h : f[i]? = some b) (t : Bool) : (wipe f i t)[i]? = some ⟨List.replicate 4 (if t then ⟨2, rc0⟩ else pg0), b.worn + 1⟩ := by
  rw [wipe_at (List.getElem?_eq_some_iff.1 h).1 t, List.getD_eq_getElem?_getD, h]; rfl
theorem getD_of {f : List Bk} {i : Nat} {b : Bk} (h : f[i]? = some b) : f.getD i zbk = b := by rw [List.getD_eq_getElem?_getD, h]; rfl
end Go.Proofs.Ytohkoogmbfaceaa
namespace Go.Proofs.Ytohkoogmbfaceaa
set_option linter.unusedVariables false
set_option linter.unusedSimpArgs false
open Go.RowKit Go.Maps
set_option maxHeartbeats 400000
theorem flFine_of {f : List Bk} (h : flashOk f = true) : flFine f := by
  have h2 := blocksGo_true (f := f) (seen := []) (by unfold flashOk at h; simp at h; exact h.2)
  exact ⟨flashOk_len h, fun b hb => ⟨(flashOk_shape h b hb).1, (flashOk_shape h b hb).2.1, (flashOk_shape h b hb).2.2, (h2 b hb).2⟩⟩
theorem mostPs_max : ∀ (ps : List Pg) (n m : Int), mostPs (max n m) ps = max n (mostPs m ps)
  | [], _, _ => rfl
  | p :: ps, n, m => by
    show mostPs (max (max n m) p.rc.seq) ps = max n (mostPs (max m p.rc.seq) ps)
    rw [show max (max n m) p.rc.seq = max n (max m p.rc.seq) by omega]
    exact mostPs_max ps n _
theorem clean_seq {p : Pg} (h : pageOk p = true) (h1 : p.state ≠ 1) : p.rc.seq = 0 := by
  unfold pageOk at h
  rw [if_neg h1] at h
  split at h
  · have : p.rc = rc0 := by simpa using h
    rw [this]; rfl
  · cases h
theorem tag_fold : ∀ (ps : List Pg) (i j : Nat) (n : Int), (∀ p ∈ ps, pageOk p = true) → 0 ≤ n → (tagFrom i j ps).foldl bigStep n = mostPs n ps ∧ 0 ≤ mostPs n ps
  | [], _, _, _, _, h => ⟨rfl, h⟩
  | p :: ps, i, j, n, hp, h => by
    have hs : bigStep n (i, j, p) = max n p.rc.seq := by
      unfold bigStep
      dsimp only
      split
      · rfl
      · rename_i h1
        have := clean_seq (hp p (List.mem_cons_self ..)) h1
        omega
    have ih := tag_fold ps i (j + 1) (max n p.rc.seq) (fun q hq => hp q (List.mem_cons_of_mem _ hq)) (by omega)
    rw [tagFrom, List.foldl_cons, hs]
    exact ih
theorem all_fold : ∀ (f : List Bk) (i : Nat) (n : Int), (∀ b ∈ f, ∀ p ∈ b.pages, pageOk p = true) → 0 ≤ n → (allFrom i f).foldl bigStep n = f.foldl (fun n b => max n (most b)) n
  | [], _, _, _, _ => rfl
  | b :: f, i, n, hp, h => by
    obtain ⟨h1, h2⟩ := tag_fold b.pages i 0 n (hp b (List.mem_cons_self ..)) h
    rw [allFrom, List.foldl_append, h1, List.foldl_cons]
    have h3 : mostPs n b.pages = max n (most b) := by
      have := mostPs_max b.pages n 0
      rw [show max n 0 = n by omega] at this
      exact this
    rw [← h3]
    exact all_fold f (i + 1) _ (fun c hc => hp c (List.mem_cons_of_mem _ hc)) h2
theorem findNext_eq {f : List Bk} (h : flashOk f = true) : findNext f = next f := by
  unfold findNext next topSeq bigOf
  rw [if_pos h, all_fold f 0 0 (flFine_pages (flFine_of h)) (by omega)]
end Go.Proofs.Ytohkoogmbfaceaa
namespace Go.Proofs.Ytohkoogmbfaceaa
set_option linter.unusedVariables false
set_option linter.unusedSimpArgs false
theorem mem_seqsP {q : Int} {ps : List Pg} : q ∈ seqsP ps ↔ ∃ p ∈ ps, p.state = 1 ∧ p.rc.seq = q := by
  unfold seqsP
  rw [List.mem_map]
  constructor
  · rintro ⟨p, hp, rfl⟩
    rw [List.mem_filter] at hp
    exact ⟨p, hp.1, by simpa using hp.2, rfl⟩
  · rintro ⟨p, hp, h1, rfl⟩
    exact ⟨p, List.mem_filter.2 ⟨hp, by simpa using h1⟩, rfl⟩
theorem mem_seqsF {q : Int} {f : List Bk} : q ∈ seqsF f ↔ ∃ b ∈ f, q ∈ seqsP b.pages := by unfold seqsF; rw [List.mem_flatMap]
theorem seqIn_iff {f : List Bk} {s : Int} : seqIn f s = true ↔ s ∈ seqsF f := by
  rw [mem_seqsF]
  unfold seqIn
  rw [List.any_eq_true]
  constructor
  · rintro ⟨b, hb, h⟩
    rw [List.any_eq_true] at h
    obtain ⟨p, hp, h⟩ := h
    unfold hasSeq at h
    rw [Bool.and_eq_true, decide_eq_true_iff, decide_eq_true_iff] at h
    exact ⟨b, hb, mem_seqsP.2 ⟨p, hp, h.1, h.2⟩⟩
  · rintro ⟨b, hb, h⟩
    obtain ⟨p, hp, h1, h2⟩ := mem_seqsP.1 h
    refine ⟨b, hb, List.any_eq_true.2 ⟨p, hp, ?_⟩⟩
    unfold hasSeq
    rw [Bool.and_eq_true, decide_eq_true_iff, decide_eq_true_iff]
    exact ⟨h1, h2⟩
/-- two blocks' numbers are apart -/
theorem seqs_apart : ∀ {f : List Bk}, (seqsF f).Nodup → ∀ {i j : Nat} {a b : Bk} {q : Int}, i ≠ j → f[i]? = some a → f[j]? = some b → q ∈ seqsP a.pages → q ∉ seqsP b.pages
  | [], _, i, j, a, b, q, _, h1, _, _ => by simp at h1
  | c :: f, hn, i, j, a, b, q, hij, h1, h2, hq => by
    rw [show seqsF (c :: f) = seqsP c.pages ++ seqsF f from by simp [seqsF], List.nodup_append] at hn
    obtain ⟨n1, n2, n3⟩ := hn
    intro hq2
    cases i with
    | zero =>
      rw [List.getElem?_cons_zero, Option.some.injEq] at h1
      subst h1
      cases j with
      | zero => exact hij rfl
      | succ j =>
        rw [List.getElem?_cons_succ] at h2
        exact n3 q hq q (mem_seqsF.2 ⟨b, List.mem_of_getElem? h2, hq2⟩) rfl
    | succ i =>
      rw [List.getElem?_cons_succ] at h1
      cases j with
      | zero =>
        rw [List.getElem?_cons_zero, Option.some.injEq] at h2
        subst h2
        exact n3 q hq2 q (mem_seqsF.2 ⟨a, List.mem_of_getElem? h1, hq⟩) rfl
      | succ j =>
        rw [List.getElem?_cons_succ] at h2
        exact seqs_apart n2 (fun e => hij (by rw [e])) h1 h2 hq hq2
theorem mostPs_spec : ∀ (ps : List Pg) (n : Int), (∀ p ∈ ps, pageOk p = true) → 0 ≤ n → n ≤ mostPs n ps ∧ (∀ q ∈ seqsP ps, q ≤ mostPs n ps) ∧ (mostPs n ps = n ∨ mostPs n ps ∈ seqsP ps)
  | [], n, _, _ => ⟨by unfold mostPs; simp, fun q h => by simp [seqsP] at h, .inl rfl⟩
  | p :: ps, n, hp, h => by
    have ho := hp p (List.mem_cons_self ..)
    obtain ⟨i1, i2, i3⟩ := mostPs_spec ps (max n p.rc.seq) (fun q hq => hp q (List.mem_cons_of_mem _ hq)) (by omega)
    have he : mostPs n (p :: ps) = mostPs (max n p.rc.seq) ps := rfl
    rw [he, seqsP_cons]
    by_cases h1 : p.state = 1
    · rw [if_pos h1]
      refine ⟨by omega, fun q hq => ?_, ?_⟩
      · rcases List.mem_cons.1 hq with rfl | hq
        · omega
        · exact i2 q hq
      · rcases i3 with i3 | i3
        · rw [i3]
          by_cases hm : n ≤ p.rc.seq
          · right; rw [show max n p.rc.seq = p.rc.seq by omega]; exact List.mem_cons_self ..
          · left; omega
        · exact .inr (List.mem_cons_of_mem _ i3)
    · rw [if_neg h1]
      have := clean_seq ho h1
      rw [show max n p.rc.seq = n by omega] at *
      exact ⟨i1, i2, i3⟩
theorem seq_pos {ps : List Pg} (hp : ∀ p ∈ ps, pageOk p = true) {q : Int} (hq : q ∈ seqsP ps) : 1 ≤ q ∧ q ≤ 600 := by
  obtain ⟨p, h, h1, rfl⟩ := mem_seqsP.1 hq
  have := recOk_addr (rec_of_written (hp p h) h1)
  omega
theorem leastPs_spec : ∀ (ps : List Pg) (n : Int), (∀ p ∈ ps, pageOk p = true) → 0 ≤ n →
    (ps.foldl leastStep n = n ∧ (n = 0 → seqsP ps = []) ∨ ps.foldl leastStep n ∈ seqsP ps) ∧ (∀ q ∈ seqsP ps, ps.foldl leastStep n ≤ q) ∧ (0 < n → 0 < ps.foldl leastStep n ∧ ps.foldl leastStep n ≤ n) ∧ 0 ≤ ps.foldl leastStep n
  | [], n, _, h => ⟨.inl ⟨rfl, fun _ => rfl⟩, fun q hq => by simp [seqsP] at hq, fun h => ⟨h, Int.le_refl _⟩, h⟩
  | p :: ps, n, hp, h => by
    have ho := hp p (List.mem_cons_self ..)
    have hps := fun q hq => hp q (List.mem_cons_of_mem _ hq)
    rw [List.foldl_cons, seqsP_cons]
    by_cases h1 : p.state = 1
    · have hr := recOk_addr (rec_of_written ho h1)
      rw [if_pos h1]
      unfold leastStep
      by_cases hc : 0 < p.rc.seq ∧ (n = 0 ∨ p.rc.seq < n)
      · rw [if_pos hc]
        obtain ⟨i1, i2, i3, i4⟩ := leastPs_spec ps p.rc.seq hps (by omega)
        have i5 := i3 (by omega)
        unfold leastStep at *
        refine ⟨.inr ?_, fun q hq => ?_, fun h0 => ⟨i5.1, by omega⟩, i4⟩
        · rcases i1 with ⟨i1, _⟩ | i1
          · rw [i1]; exact List.mem_cons_self ..
          · exact List.mem_cons_of_mem _ i1
        · rcases List.mem_cons.1 hq with rfl | hq
          · exact i5.2
          · exact i2 q hq
      · rw [if_neg hc]
        obtain ⟨i1, i2, i3, i4⟩ := leastPs_spec ps n hps h
        have h0 : 0 < n := by
          by_cases h0 : 0 < n
          · exact h0
          · exact absurd ⟨by omega, .inl (by omega)⟩ hc
        have i5 := i3 h0
        unfold leastStep at *
        refine ⟨?_, fun q hq => ?_, i3, i4⟩
        · rcases i1 with ⟨i1, _⟩ | i1
          · exact .inl ⟨i1, fun e => by omega⟩
          · exact .inr (List.mem_cons_of_mem _ i1)
        · rcases List.mem_cons.1 hq with rfl | hq
          · have : ¬ p.rc.seq < n := fun e => hc ⟨by omega, .inr e⟩
            omega
          · exact i2 q hq
    · rw [if_neg h1]
      have h0 := clean_seq ho h1
      have : leastStep n p = n := by unfold leastStep; rw [if_neg (by rintro ⟨h, _⟩; omega)]
      rw [this]
      exact leastPs_spec ps n hps h
/-- the greatest and the least number of a block -/
theorem most_le {b : Bk} (hp : ∀ p ∈ b.pages, pageOk p = true) {q : Int} (hq : q ∈ seqsP b.pages) : q ≤ most b := (mostPs_spec b.pages 0 hp (Int.le_refl _)).2.1 q hq
theorem most_mem {b : Bk} (hp : ∀ p ∈ b.pages, pageOk p = true) (h : 0 < most b) : most b ∈ seqsP b.pages := by
  rcases (mostPs_spec b.pages 0 hp (Int.le_refl _)).2.2 with h1 | h1
  · have : most b = 0 := h1
    omega
  · exact h1
theorem most_nn {b : Bk} (hp : ∀ p ∈ b.pages, pageOk p = true) : 0 ≤ most b := (mostPs_spec b.pages 0 hp (Int.le_refl _)).1
theorem least_le {b : Bk} (hp : ∀ p ∈ b.pages, pageOk p = true) {q : Int} (hq : q ∈ seqsP b.pages) : least b ≤ q := (leastPs_spec b.pages 0 hp (Int.le_refl _)).2.1 q hq
theorem least_mem {b : Bk} (hp : ∀ p ∈ b.pages, pageOk p = true) (h : 0 < most b) : least b ∈ seqsP b.pages := by
  have hm := most_mem hp h
  rcases (leastPs_spec b.pages 0 hp (Int.le_refl _)).1 with ⟨_, h2⟩ | h2
  · rw [h2 rfl] at hm; cases hm
  · exact h2
theorem least_most {b : Bk} (hp : ∀ p ∈ b.pages, pageOk p = true) (h : 0 < most b) : 0 < least b ∧ least b ≤ most b :=
  ⟨by have := seq_pos hp (least_mem hp h); omega, most_le hp (least_mem hp h)⟩
theorem most_none {b : Bk} (hp : ∀ p ∈ b.pages, pageOk p = true) (h : seqsP b.pages = []) : most b = 0 := by
  have h0 := most_nn hp
  by_cases hm : 0 < most b
  · have := most_mem hp hm
    rw [h] at this; cases this
  · omega
/-! ### a page written -/
theorem four {α : Type} {l : List α} (h : l.length = 4) : ∃ a b c d, l = [a, b, c, d] := by
  match l, h with
  | [a, b, c, d], _ => exact ⟨a, b, c, d, rfl⟩
theorem shape_put {ps : List Pg} (h4 : ps.length = 4) (hs : shapeGo false ps = true) {q : Pg} (hq : q.state ≠ 0) (hc : ps.countP isClean ≠ 0) :
    shapeGo false (ps.set (4 - ps.countP isClean) q) = true ∧ (∃ p, ps[4 - ps.countP isClean]? = some p ∧ p.state = 0) ∧ (ps.set (4 - ps.countP isClean) q).countP isClean + 1 = ps.countP isClean := by
  obtain ⟨a, b, c, d, rfl⟩ := four h4
  by_cases ha : a.state = 0 <;> by_cases hb : b.state = 0 <;> by_cases hc' : c.state = 0 <;> by_cases hd : d.state = 0 <;>
    simp [shapeGo, isClean, List.countP_cons, ha, hb, hc', hd, hq] at hs hc ⊢
theorem seqsP_put : ∀ (ps : List Pg) (k : Nat) (p q : Pg), ps[k]? = some p → p.state ≠ 1 → q.state = 1 → (seqsP (ps.set k q)).Perm (q.rc.seq :: seqsP ps)
  | [], k, p, q, h, _, _ => by simp at h
  | a :: ps, 0, p, q, h, h1, hq => by
    rw [List.getElem?_cons_zero, Option.some.injEq] at h
    subst h
    rw [List.set_cons_zero, seqsP_cons, seqsP_cons, if_pos hq, if_neg h1]
  | a :: ps, k + 1, p, q, h, h1, hq => by
    rw [List.getElem?_cons_succ] at h
    have ih := seqsP_put ps k p q h h1 hq
    rw [List.set_cons_succ, seqsP_cons, seqsP_cons]
    split
    · exact (ih.cons _).trans (List.Perm.swap _ _ _)
    · exact ih
theorem seqsP_torn : ∀ (ps : List Pg) (k : Nat) (p q : Pg), ps[k]? = some p → p.state ≠ 1 → q.state ≠ 1 → seqsP (ps.set k q) = seqsP ps
  | [], k, p, q, h, _, _ => by simp at h
  | a :: ps, 0, p, q, h, h1, hq => by
    rw [List.getElem?_cons_zero, Option.some.injEq] at h
    subst h
    rw [List.set_cons_zero, seqsP_cons, seqsP_cons, if_neg hq, if_neg h1]
  | a :: ps, k + 1, p, q, h, h1, hq => by
    rw [List.getElem?_cons_succ] at h
    have ih := seqsP_torn ps k p q h h1 hq
    rw [List.set_cons_succ, seqsP_cons, seqsP_cons, ih]
theorem seqsF_put : ∀ (f : List Bk) (i : Nat) (b c : Bk) (xs : List Int), f[i]? = some b → (seqsP c.pages).Perm (xs ++ seqsP b.pages) → (seqsF (f.set i c)).Perm (xs ++ seqsF f)
  | [], i, b, c, xs, h, _ => by simp at h
  | a :: f, 0, b, c, xs, h, hc => by
    rw [List.getElem?_cons_zero, Option.some.injEq] at h
    subst h
    rw [List.set_cons_zero, show seqsF (c :: f) = seqsP c.pages ++ seqsF f from by simp [seqsF], show seqsF (a :: f) = seqsP a.pages ++ seqsF f from by simp [seqsF], ← List.append_assoc]
    exact hc.append_right _
  | a :: f, i + 1, b, c, xs, h, hc => by
    rw [List.getElem?_cons_succ] at h
    have ih := seqsF_put f i b c xs h hc
    rw [List.set_cons_succ, show seqsF (a :: f.set i c) = seqsP a.pages ++ seqsF (f.set i c) from by simp [seqsF], show seqsF (a :: f) = seqsP a.pages ++ seqsF f from by simp [seqsF]]
    refine (ih.append_left _).trans ?_
    rw [← List.append_assoc, ← List.append_assoc]
    exact List.perm_append_comm.append_right _
/-- the page that a record leaves -/
def putPg (r : Rc) (torn : Bool) : Pg := if torn then ⟨2, rc0⟩ else ⟨1, r⟩
def putBk (b : Bk) (r : Rc) (torn : Bool) : Bk := { b with pages := b.pages.set (4 - clean b) (putPg r torn) }
theorem putPg_ok {r : Rc} (h : recOk r = true) (torn : Bool) : pageOk (putPg r torn) = true ∧ (putPg r torn).state ≠ 0 := by
  cases torn
  · exact ⟨put_ok h, by show (1 : Int) ≠ 0; decide⟩
  · exact ⟨torn_ok, by show (2 : Int) ≠ 0; decide⟩
theorem bk_parts {f : List Bk} (h : flashOk f = true) {b : Bk} (hb : b ∈ f) : b.pages.length = 4 ∧ (0 ≤ b.worn ∧ b.worn ≤ 200) ∧ shapeGo false b.pages = true ∧ ∀ p ∈ b.pages, pageOk p = true := by
  obtain ⟨h1, h2⟩ := ((flashOk_iff f).1 h).2.1 b hb
  unfold blockShape at h1
  rw [Bool.and_eq_true, Bool.and_eq_true, Bool.and_eq_true, decide_eq_true_iff, decide_eq_true_iff, decide_eq_true_iff] at h1
  exact ⟨h1.1, ⟨h1.2.1, h1.2.2.1⟩, h1.2.2.2, h2⟩
theorem putBk_parts {f : List Bk} (h : flashOk f = true) {b : Bk} (hb : b ∈ f) {r : Rc} (hr : recOk r = true) (torn : Bool) (hc : clean b ≠ 0) :
    blockShape (putBk b r torn) = true ∧ (∀ p ∈ (putBk b r torn).pages, pageOk p = true) ∧ clean (putBk b r torn) + 1 = clean b ∧
    (torn = true → seqsP (putBk b r torn).pages = seqsP b.pages) ∧ (torn = false → (seqsP (putBk b r torn).pages).Perm ([r.seq] ++ seqsP b.pages)) := by
  obtain ⟨h1, h2, h3, h4⟩ := bk_parts h hb
  obtain ⟨p1, p2⟩ := putPg_ok hr torn
  obtain ⟨s1, ⟨p, hp, hp0⟩, s3⟩ := shape_put h1 h3 p2 hc
  refine ⟨?_, fun q hq => ?_, s3, ?_, ?_⟩
  · unfold blockShape putBk
    rw [Bool.and_eq_true, Bool.and_eq_true, Bool.and_eq_true, decide_eq_true_iff, decide_eq_true_iff, decide_eq_true_iff]
    exact ⟨by rw [List.length_set]; exact h1, h2.1, h2.2, s1⟩
  · rcases List.mem_or_eq_of_mem_set hq with hq | rfl
    · exact h4 q hq
    · exact p1
  · rintro rfl
    exact seqsP_torn _ _ p _ hp (by omega) (by show (2 : Int) ≠ 1; decide)
  · rintro rfl
    exact seqsP_put _ _ p _ hp (by omega) rfl
theorem put_ok4 {f : List Bk} (h : flashOk f = true) {i : Nat} {b : Bk} (hb : f[i]? = some b) {r : Rc} (hr : recOk r = true) (torn : Bool) (hc : clean b ≠ 0) (hs : seqIn f r.seq ≠ true) : flashOk (f.set i (putBk b r torn)) = true := by
  obtain ⟨k1, k2, _, k4, k5⟩ := putBk_parts h (List.mem_of_getElem? hb) hr torn hc
  replace hs : r.seq ∉ seqsF f := fun e => hs (seqIn_iff.2 e)
  rw [flashOk_iff] at h ⊢
  obtain ⟨a, b', c⟩ := h
  refine ⟨by simpa using a, fun x hx => ?_, ?_⟩
  · rcases List.mem_or_eq_of_mem_set hx with hx | rfl
    · exact b' x hx
    · exact ⟨k1, k2⟩
  · cases torn
    · exact (seqsF_put f i b _ [r.seq] hb (k5 rfl)).nodup_iff.2 (List.nodup_cons.2 ⟨hs, c⟩)
    · exact (seqsF_put f i b _ [] hb (by rw [k4 rfl]; exact List.Perm.refl _)).nodup_iff.2 c
end Go.Proofs.Ytohkoogmbfaceaa
namespace Go.Proofs.Ytohkoogmbfaceaa
set_option linter.unusedVariables false
set_option linter.unusedSimpArgs false
open Go.RowKit Go.Maps Go.Shelf
attribute [local go_sem] Oper.semAt_some
set_option maxHeartbeats 400000
def rcV (r : Rc) : Value := .agg #[.int .i64 r.kind, .int .i64 r.seq, .int .i64 r.addr, .int .i64 r.val]
def recD (r : Rc) : DataW Unit := .agg [.lit (.int .i64 r.kind), .lit (.int .i64 r.seq), .lit (.int .i64 r.addr), .lit (.int .i64 r.val)]
def recL : List Value → Option Rc
  | [.int .i64 a, .int .i64 b, .int .i64 c, .int .i64 d] => some ⟨a, b, c, d⟩
  | _ => none
def recElem (v : Value) : Option (DataW Unit × List MemPlace) := match v with
  | .agg cs => (recL cs.toList).map fun r => (recD r, [])
  | _ => none
theorem recElem_mk (r : Rc) : recElem (rcV r) = some (recD r, []) := rfl
theorem recL_inv {l : List Value} {r : Rc} (h : recL l = some r) : l = [.int .i64 r.kind, .int .i64 r.seq, .int .i64 r.addr, .int .i64 r.val] := by
  unfold recL at h
  split at h
  · cases h; rfl
  · cases h
theorem recD_inj {r s : Rc} (h : recD r = recD s) : r = s := by
  unfold recD at h
  cases r; cases s
  simp only [DataW.agg.injEq, List.cons.injEq, DataW.lit.injEq, Lit.int.injEq, true_and, and_true] at h
  obtain ⟨rfl, rfl, rfl, rfl⟩ := h
  rfl
theorem recElem_inv {v : Value} {r : Rc} {ps : List MemPlace} (h : recElem v = some (recD r, ps)) : v = rcV r := by
  unfold recElem at h
  cases v with
  | agg cs =>
    dsimp only at h
    cases hl : recL cs.toList with
    | none => rw [hl] at h; cases h
    | some s =>
      rw [hl] at h
      simp only [Option.map_some, Option.some.injEq, Prod.mk.injEq] at h
      have hr := recD_inj h.1
      subst hr
      have := recL_inv hl
      unfold rcV
      rw [← this]
  | _ => cases h
/-- block b is a map from int to records (type K of its keys) of at most n entries, that answers F -/
def RMap (P : Program) (K : TypeId) (w : World) (b n : Nat) (F : Int → Option Rc) : Prop :=
  ∃ D : DataW Unit, w.ownsMap P K recElem b n D ∧ IsMap D ∧ ∀ k, (Lit.int .i64 k).wf = true → D.atKey (.int .i64 k) (recD rc0) = recD ((F k).getD rc0) ∧ has D (.int .i64 k) = (F k).isSome
section
variable {P : Program} {t K E : TypeId} {w w' : World} {b n : Nat} {F : Int → Option Rc}
theorem RMap.made (P : Program) (K : TypeId) (w : World) : RMap P K (w.alloc (.map #[] 0)) w.heap.size 0 (fun _ => none) := ⟨_, World.ownsMap_made _ _ _ _, isMap_empty, fun k _ => ⟨rfl, rfl⟩⟩
theorem RMap.mono (h : RMap P K w b n F) {m : Nat} (hm : n ≤ m) : RMap P K w b m F := by
  obtain ⟨D, h1, h2⟩ := h; exact ⟨D, h1.mono hm, h2⟩
theorem RMap.lt (h : RMap P K w b n F) : b < w.heap.size := by obtain ⟨D, h1, _⟩ := h; exact h1.lt
theorem RMap.at_ (h : RMap P K w b n F) : ∃ es clock, w.heap[b]? = some (.map es clock) := by obtain ⟨D, ⟨es, clock, e, _⟩, _⟩ := h; exact ⟨es, clock, e⟩
theorem RMap.below {B : Nat} (h : RMap P K w b n F) (hb : Below B w w') (hB : b < B) : RMap P K w' b n F := by
  obtain ⟨D, ⟨es, clock, e, r⟩, h2⟩ := h
  exact ⟨D, ⟨es, clock, (hb.block b hB).trans e, r⟩, h2⟩
theorem RMap.kept {row : Option Nat} (h : RMap P K w b n F) (hg : w.grownBy w' row) (hne : some b ≠ row) : RMap P K w' b n F := by
  obtain ⟨D, h1, h2⟩ := h; exact ⟨D, h1.kept hg hne, h2⟩
theorem RMap.alloc (h : RMap P K w b n F) (o : Obj) : RMap P K (w.alloc o) b n F := by
  obtain ⟨D, h1, h2⟩ := h; exact ⟨D, h1.alloc o, h2⟩
theorem RMap.look (h : RMap P K w b n F) (ht : P.underlying t = some (.map K E)) (hK : P.underlying K = some (.int .i64)) (hz : ∀ w : World, (zeroValue E).run P w = .ok (rcV rc0) w) {k : Int} (hk : (Lit.int .i64 k).wf = true) :
    (Instr.lookup t (.map (some b)) (.int .i64 k) false).run P w = .ok (rcV ((F k).getD rc0)) w := by
  obtain ⟨D, h1, _, h3⟩ := h
  obtain ⟨v, ps, hrun, hv⟩ := h1.lookup (int_keyed hK) ht (hz w) (recElem_mk rc0) (keyOf_int_mk hK hk)
  rw [(h3 k hk).1] at hv
  rw [hrun, recElem_inv hv]
theorem RMap.look_ok (h : RMap P K w b n F) (ht : P.underlying t = some (.map K E)) (hK : P.underlying K = some (.int .i64)) (hz : ∀ w : World, (zeroValue E).run P w = .ok (rcV rc0) w) {k : Int} (hk : (Lit.int .i64 k).wf = true) :
    (Instr.lookup t (.map (some b)) (.int .i64 k) true).run P w = .ok (.tuple #[rcV ((F k).getD rc0), .bool (F k).isSome]) w := by
  obtain ⟨D, h1, _, h3⟩ := h
  obtain ⟨v, ps, hrun, hv⟩ := h1.look_ok (int_keyed hK) ht (hz w) (recElem_mk rc0) (keyOf_int_mk hK hk)
  rw [(h3 k hk).1] at hv
  rw [(h3 k hk).2] at hrun
  rw [hrun, recElem_inv hv]
theorem RMap.put (h : RMap P K w b n F) (ht : P.underlying t = some (.map K E)) (hK : P.underlying K = some (.int .i64)) (hn : n < maxLen) {k : Int} (r : Rc) (hk : (Lit.int .i64 k).wf = true) :
    ∃ w', (Instr.mapUpdate t (.map (some b)) (.int .i64 k) (rcV r)).run P w = .ok () w' ∧ RMap P K w' b (n + 1) (fun x => if x = k then some r else F x) ∧ w.grownBy w' (some b) := by
  obtain ⟨D, h1, h2, h3⟩ := h
  obtain ⟨w', hrun, g1, g2⟩ := h1.update (int_keyed hK) ht hn (keyOf_int_mk hK hk) (recElem_mk r)
  refine ⟨w', hrun, ⟨_, g1, h2.put _ _, fun x hx => ?_⟩, g2⟩
  dsimp only
  by_cases e : x = k
  · subst e
    rw [if_pos rfl, atKey_put_same h2 (isKeyLit_int _ hk), has_put_same h2 (isKeyLit_int _ hk)]
    exact ⟨rfl, rfl⟩
  · have hne : Lit.int .i64 x ≠ Lit.int .i64 k := by intro e'; injection e' with _ e''; exact e e''
    rw [if_neg e, atKey_put_other hne, has_put_other hne]
    exact h3 x hx
end
/-! ### what the program's map holds -/
def lmStep (F : Int → Option Rc) (x : PgAt) : Int → Option Rc :=
  if x.2.2.state = 1 ∧ ((F x.2.2.rc.addr).getD rc0).seq < x.2.2.rc.seq then fun a => if a = x.2.2.rc.addr then some x.2.2.rc else F a else F
def lastMap (pre : List PgAt) : Int → Option Rc := pre.foldl lmStep (fun _ => none)
theorem lastMap_snoc (pre : List PgAt) (x : PgAt) : lastMap (pre ++ [x]) = lmStep (lastMap pre) x := by unfold lastMap; rw [List.foldl_append]; rfl
def foundR (r : Rc) : Option Rc := if 0 < r.seq then some r else none
theorem foundR_getD {r : Rc} (h : r = rc0 ∨ 0 < r.seq) : (foundR r).getD rc0 = r := by
  unfold foundR
  split
  · rfl
  · rcases h with rfl | h
    · rfl
    · contradiction
theorem lm_step {F : Int → Option Rc} {o : Int → Rc} {x : PgAt} (hx : pageOk x.2.2 = true) (h : ∀ a, F a = foundR (o a)) (h0 : ∀ a, o a = rc0 ∨ 0 < (o a).seq) (a : Int) :
    lmStep F x a = foundR (lastStep a (o a) x.2.2) ∧ (lastStep a (o a) x.2.2 = rc0 ∨ 0 < (lastStep a (o a) x.2.2).seq) := by
  have hL0 : ∀ r : Rc, ¬ (x.2.2.state = 1 ∧ x.2.2.rc.addr = a ∧ r.seq < x.2.2.rc.seq) → lastStep a r x.2.2 = r := fun r hr => by unfold lastStep; rw [if_neg hr]
  by_cases hc : x.2.2.state = 1 ∧ (o x.2.2.rc.addr).seq < x.2.2.rc.seq
  · have hs := (recOk_addr (rec_of_written hx hc.1)).2.2.2.2.1
    have hM : lmStep F x = fun a => if a = x.2.2.rc.addr then some x.2.2.rc else F a := by unfold lmStep; rw [h, foundR_getD (h0 _), if_pos hc]
    rw [hM]
    by_cases ha : a = x.2.2.rc.addr
    · have hL : lastStep a (o a) x.2.2 = x.2.2.rc := by rw [ha]; unfold lastStep; rw [if_pos ⟨hc.1, rfl, hc.2⟩]
      rw [hL]
      exact ⟨by dsimp only; rw [if_pos ha]; unfold foundR; rw [if_pos (by omega)], .inr (by omega)⟩
    · rw [hL0 _ (fun e => ha e.2.1.symm)]
      exact ⟨by dsimp only; rw [if_neg ha]; exact h a, h0 a⟩
  · have hM : lmStep F x = F := by unfold lmStep; rw [h, foundR_getD (h0 _), if_neg hc]
    rw [hM, hL0 _ (fun e => hc ⟨e.1, by rw [e.2.1]; exact e.2.2⟩)]
    exact ⟨h a, h0 a⟩
theorem lm_tag : ∀ (ps : List Pg) (i j : Nat) (F : Int → Option Rc) (o : Int → Rc), (∀ p ∈ ps, pageOk p = true) → (∀ a, F a = foundR (o a)) → (∀ a, o a = rc0 ∨ 0 < (o a).seq) →
    ∀ a, (tagFrom i j ps).foldl lmStep F a = foundR (lastPs a (o a) ps) ∧ (lastPs a (o a) ps = rc0 ∨ 0 < (lastPs a (o a) ps).seq)
  | [], _, _, F, o, _, h, h0, a => ⟨h a, h0 a⟩
  | p :: ps, i, j, F, o, hp, h, h0, a => by
    have hst := fun a => lm_step (x := (i, j, p)) (hp p (List.mem_cons_self ..)) h h0 a
    rw [tagFrom, List.foldl_cons]
    exact lm_tag ps i (j + 1) (lmStep F (i, j, p)) (fun a => lastStep a (o a) p) (fun q hq => hp q (List.mem_cons_of_mem _ hq)) (fun a => (hst a).1) (fun a => (hst a).2) a
theorem lm_all : ∀ (f : List Bk) (i : Nat) (F : Int → Option Rc) (o : Int → Rc), (∀ b ∈ f, ∀ p ∈ b.pages, pageOk p = true) → (∀ a, F a = foundR (o a)) → (∀ a, o a = rc0 ∨ 0 < (o a).seq) →
    ∀ a, (allFrom i f).foldl lmStep F a = foundR (f.foldl (fun o b => lastPs a o b.pages) (o a))
  | [], _, F, o, _, h, _, a => h a
  | b :: f, i, F, o, hp, h, h0, a => by
    have hst := fun a => lm_tag b.pages i 0 F o (hp b (List.mem_cons_self ..)) h h0 a
    rw [allFrom, List.foldl_append]
    exact lm_all f (i + 1) _ (fun a => lastPs a (o a) b.pages) (fun c hc => hp c (List.mem_cons_of_mem _ hc)) (fun a => (hst a).1) (fun a => (hst a).2) a
theorem lastMap_eq {f : List Bk} (h : flashOk f = true) (a : Int) : lastMap (allFrom 0 f) a = foundR (last f a) :=
  lm_all f 0 (fun _ => none) (fun _ => rc0) (fun b hb => (bk_parts h hb).2.2.2) (fun _ => rfl) (fun _ => .inl rfl) a
theorem tag_len (i : Nat) : ∀ (ps : List Pg) (j : Nat), (tagFrom i j ps).length = ps.length
  | [], _ => rfl
  | _ :: ps, j => by rw [tagFrom, List.length_cons, tag_len i ps, List.length_cons]
theorem all_len : ∀ (f : List Bk) (i : Nat), (∀ b ∈ f, b.pages.length = 4) → (allFrom i f).length = 4 * f.length
  | [], _, _ => rfl
  | b :: f, i, h => by
    rw [allFrom, List.length_append, tag_len, all_len f (i + 1) (fun c hc => h c (List.mem_cons_of_mem _ hc)), h b (List.mem_cons_self ..), List.length_cons]
    omega
theorem zero_rec (w : World) : (zeroValue 75).run Try.prog w = .ok (rcV rc0) w := by kernel_rfl
theorem field_seq (a b c d : Int) (w : World) : (Instr.field 75 (.agg #[.int .i64 a, .int .i64 b, .int .i64 c, .int .i64 d]) 1).run Try.prog w = .ok (.int .i64 b) w := by kernel_rfl
theorem wf_int {k : Int} (h : -1000 ≤ k ∧ k ≤ 1000) : (Lit.int .i64 k).wf = true := by
  have h1 : IntKind.i64.min ≤ k := Int.le_trans (by decide) h.1
  have h2 : k ≤ IntKind.i64.max := Int.le_trans h.2 (by decide)
  simp only [Lit.wf, Bool.and_eq_true, decide_eq_true_iff]
  exact ⟨h1, h2⟩
/-! ### the walk -/
abbrev PgOf (f : List Bk) := { x : PgAt // x ∈ allFrom 0 f }
theorem eachPageF_stops (F : Fence) (n : Nat) (hF : F.fn 73) (hro : F.round = none) (hn : 1 ≤ n) (Bs n₀ g o c : Nat) (f : List Bk) (hs : List (Option Addr × Nat)) (w : World) (hB : Bs < w.heap.size) (hn₀ : n₀ ≤ w.heap.size)
    (hBs : w.cell? ⟨Bs, 0, none⟩ = some (.slice (some ⟨g, o, none⟩) f.length c)) (hl : f.length < 1000000000000) (hp : ∀ b ∈ f, b.pages.length < 1000000000000)
    (hBk : Bks w (some ⟨g, o, none⟩) f hs) (hlow : ∀ b, fblk (some ⟨g, o, none⟩) hs b → b < n₀) :
    SeqStopsK F n Try.prog 73 #[.pointer (some ⟨Bs, 0, none⟩)] (fun x : PgOf f => encP x.1) (Below n₀) (fun ys => ys.map Subtype.val = allFrom 0 f) (fun pre => pre.map Subtype.val <+: allFrom 0 f) (allFrom 0 f).length w := fun l J Jx W hW hJ _ hY h0 => by
  refine (eachPage1_in F n hF hro hn l Bs n₀ g o c f hs (fun pre V => ∃ pre' : List (PgOf f), pre'.map Subtype.val = pre ∧ J pre' V) (fun pre V => ∃ pre' : List (PgOf f), pre'.map Subtype.val = pre ∧ Jx pre' V) W (Nat.le_trans hn₀ hW.size)
    (fun s X Y row hs hg hr => by obtain ⟨p, e, h⟩ := hs; exact ⟨p, e, hJ p X Y row h hg hr⟩) (fun pre x W1 h1 h2 h3 => ?_) ((hW.cell (p := ⟨Bs, 0, none⟩) hB).trans hBs) hl hp (hBk.keep fun q hq hl => hW.block q (by omega)) hlow ⟨[], rfl, h0⟩).mono ?_
  · obtain ⟨pre', rfl, hj⟩ := h1
    refine (hY pre' ⟨x, h3.2⟩ W1 hj (by simpa using h2)).mono ?_
    rintro e V (⟨rfl, hj2, hk⟩ | ⟨rfl, hj2⟩)
    · exact .inl ⟨rfl, ⟨_, by simp, hj2⟩, hk⟩
    · exact .inr ⟨rfl, _, by simp, hj2⟩
  · rintro e V ⟨he, ⟨ys, rfl, pre', h1, h2⟩ | ⟨pre, h0, pre', rfl, h2⟩⟩
    · exact ⟨he, .inl ⟨pre', h1, h2⟩⟩
    · exact ⟨he, .inr ⟨pre', h0, h2⟩⟩
theorem page_of {f : List Bk} (h : flashOk f = true) (x : PgOf f) : pageOk x.1.2.2 = true := by
  obtain ⟨b, hb, hx⟩ := mem_all x.2
  exact (bk_parts h hb).2.2.2 _ hx
def lmOf {f : List Bk} (pre : List (PgOf f)) : Int → Option Rc := lastMap (pre.map Subtype.val)
theorem lmOf_snoc {f : List Bk} (pre : List (PgOf f)) (x : PgOf f) : lmOf (pre ++ [x]) = lmStep (lmOf pre) x.1 := by unfold lmOf; rw [List.map_append]; exact lastMap_snoc _ _
theorem rmap_kept {P : Program} {K : TypeId} {f : List Bk} (b n₀ : Nat) (hb : b < n₀) : OwnFrom n₀ (fun (pre : List (PgOf f)) W => RMap P K W b pre.length (lmOf pre)) := fun _ _ _ _ hs hg hr =>
  hs.kept hg (fun e => by have := (hr _ e.symm).1; omega)
set_option maxRecDepth 100000 in
set_option maxHeartbeats 4000000 in
theorem impl_lastRecords (f : List Bk) (A : Option Addr) (n c : Nat) (w : World) (hn : n = f.length) (hok : flashOk f = true) (hF : Fl w A f) :
    Calls Try.prog 47 #[.slice A n c] w fun e w' => e = .returned (.map (some w.heap.size)) ∧ RMap Try.prog 3 w' w.heap.size 16 (lastMap (allFrom 0 f)) ∧ Below w.heap.size w w' := by
  subst hn
  refine (callsIn_wide (n := 6)).1 ?_
  refine callsIn_of_wp_marks Try.func47 rfl trivial ?_ rfl
  simp only [Try.ntmps47, List.size_toArray, List.length_cons, List.length_nil, Nat.reduceAdd, Nat.reduceSub, Array.replicate_succ, Array.replicate_zero, List.push_toArray, List.append_toArray, List.nil_append, List.cons_append]
  have hmm := @run_makeMap Try.prog
  have hfd := field_seq
  have hfl := flashOk_len hok
  have HFL := Lib.hid hfl
  have HOK := Lib.hid hok
  have HP := Lib.hid (show ∀ b ∈ f, b.pages.length < 1000000000000 from fun b hb => by rw [(flashOk_shape hok b hb).1]; omega)
  have HPL := Lib.hid (fun b hb => (flashOk_shape hok b hb).1)
  have HAL := Lib.hid (all_len f 0 HPL.out)
  obtain ⟨hs, hBk⟩ := hF
  obtain ⟨g, o, rfl⟩ := hBk.addr (by intro e; have := HFL.out; rw [e] at this; simp at this)
  clear hfl hok
  gi_wp2_with (refine ⟨trivial, ?_⟩; gi_at_call 45; refine (eachPage_in Fence.wide _ trivial rfl _ _ _ _).mono ?_; rintro e w2 ⟨rfl, rfl⟩)
  have hlow : ∀ b, fblk (some ⟨g, o, none⟩) hs b → b < w.heap.size := fun b hb => by
    have h4 := HFL.out
    rcases hb with hb | ⟨i, x, hx, hb⟩
    · rw [blk_some] at hb
      subst hb
      obtain ⟨B, hB⟩ := get_some (l := f) (k := 0) (by omega)
      obtain ⟨_, _, c0, _⟩ := hBk.at_ hB
      exact lt_of_cell c0
    · obtain ⟨B, hB⟩ := get_some (l := f) (k := i) (by rw [← hBk.len]; exact (List.getElem?_eq_some_iff.1 hx).1)
      have hr := (hBk.pg i B x hB hx).1
      have hn : B.pages ≠ [] := by intro hn; have := HPL.out B (List.mem_of_getElem? hB); rw [hn] at this; simp at this
      obtain ⟨b', o', he, hc⟩ := hr (pgs_ne hn)
      rw [he, blk_some] at hb
      subst hb
      obtain ⟨q, hq⟩ := get_some (l := pgs B.pages) (k := 0) (by rw [pgs_len]; have := List.length_pos_iff.2 hn; omega)
      exact lt_of_cell (hc 0 q hq).1
  have hm0 := ((RMap.made Try.prog 3 w).alloc (.cells #[.map (some w.heap.size)] 80)).alloc (.cells #[.slice (some ⟨g, o, none⟩) f.length c] 25)
  have bS := (Boxed.new (w.alloc (.map #[] 0)) 80 (.map (some w.heap.size))).alloc (.cells #[.slice (some ⟨g, o, none⟩) f.length c] 25)
  have bA := Boxed.new ((w.alloc (.map #[] 0)).alloc (.cells #[.map (some w.heap.size)] 80)) 25 (.slice (some ⟨g, o, none⟩) f.length c)
  simp only [World.size_alloc] at bS bA
  have hB0 : Below w.heap.size w (((w.alloc (.map #[] 0)).alloc (.cells #[.map (some w.heap.size)] 80)).alloc (.cells #[.slice (some ⟨g, o, none⟩) f.length c] 25)) := (((Below.refl _ w).alloc (Nat.le_refl _) _).alloc (by simp) _).alloc (by simp; omega) _
  have hsz : (((w.alloc (.map #[] 0)).alloc (.cells #[.map (some w.heap.size)] 80)).alloc (.cells #[.slice (some ⟨g, o, none⟩) f.length c] 25)).heap.size = w.heap.size + 3 := by simp
  have hBk2 := ((hBk.alloc (.map #[] 0)).alloc (.cells #[.map (some w.heap.size)] 80)).alloc (.cells #[.slice (some ⟨g, o, none⟩) f.length c] 25)
  obtain ⟨W0, hW0⟩ : ∃ W0, ((w.alloc (.map #[] 0)).alloc (.cells #[.map (some w.heap.size)] 80)).alloc (.cells #[.slice (some ⟨g, o, none⟩) f.length c] 25) = W0 := ⟨_, rfl⟩
  rw [hW0] at bS bA hB0 hsz hBk2 hm0 ⊢
  have hl4 : f.length < 1000000000000 := by rw [HFL.out]; omega
  clear hW0 hBk
  refine wpIn_rangeFunc_ownH rfl (by omega) (gf := 73) (lb := #[.pointer (some ⟨w.heap.size + 1 + 1, 0, none⟩)]) rfl trivial (enters_of Try.func73 (by kernel_rfl) rfl)
    (eachPageF_stops Fence.wide _ trivial rfl (by omega) (w.heap.size + 1 + 1) w.heap.size g o c f hs W0 (by omega) (by omega) bA.cell hl4 HP.out hBk2 hlow) belowK_t (belowK_b (by omega)) (Below.refl _ _) (fun _ => rfl)
    (fun pre W => (Boxed W (w.heap.size + 1) 80 (.map (some w.heap.size)) ∧ RMap Try.prog 3 W w.heap.size pre.length (lmOf pre)) ∧ Below w.heap.size w W)
    (fun _ _ _ => False)
    (OwnFrom.and (OwnFrom.and (Own.from (boxed_own _ _ (fun _ => _)) _) (rmap_kept _ _ (by omega))) (ownFrom_below (Nat.le_refl _) (by omega)))
    (fun _ _ _ _ _ hs _ _ => hs)
    ⟨⟨bS, hm0⟩, hB0⟩
    (fun x a' W => ∃ Bx, w.heap.size + 1 < Bx ∧ Laid W Bx 77 (pgv x.1.2.2) ∧ a' = { tmps := #[.slice (some ⟨g, o, none⟩) f.length c, undef, .map none, .pointer (some ⟨w.heap.size + 1, 0, none⟩), undef, .pointer (some ⟨Bx, 0, none⟩), .map (some w.heap.size), .slice (some ⟨g, o, none⟩) f.length c, .func (.func 73) #[] #[.pointer (some ⟨w.heap.size + 1 + 1, 0, none⟩)], .agg #[.int .i64 (x.1.1 : Int), .int .i64 (x.1.2.1 : Int)], .agg (pgv x.1.2.2), undef, undef, undef, undef, undef, undef, undef, undef, undef, undef, undef, undef, undef, undef, undef, undef, undef, undef, undef, undef, undef, undef], defers := [] })
    (fun x a' _ X Y row hs hg hr => by obtain ⟨Bx, h1, h2, h3⟩ := hs; exact ⟨Bx, h1, laid_own Bx _ _ _ () X Y row h2 hg hr, h3⟩)
    ?assign ?body ?done ?stop
  case assign =>
    rintro l pre x W K ⟨⟨bS1, hR1⟩, hB1⟩ hK
    dsimp only [encP]
    gi_wp2
    exact hK _ _ ((KeepsOthers.alloc _ _).from _) ((Below.refl _ W).alloc hB1.size _) ⟨⟨bS1.alloc _, hR1.alloc _⟩, hB1.alloc hB1.size _⟩ ⟨W.heap.size, bS1.lt, World.alloc_heap_new W _, rfl⟩
  case body =>
    rintro l pre x a' W hl ⟨r, hr⟩ ⟨⟨bS1, hR1⟩, hB1⟩ ⟨Bx, hBx, bX, rfl⟩ hlt
    have hpk := page_of HOK.out x
    have cS := bS1.cell
    have x0 : W.cell? ⟨Bx, 0, none⟩ = some (.int .i64 x.1.2.2.state) := bX.cell 0 rfl
    have x1 : W.cell? ⟨Bx, 1, none⟩ = some (.int .i64 x.1.2.2.rc.kind) := bX.cell 1 rfl
    have x2 : W.cell? ⟨Bx, 2, none⟩ = some (.int .i64 x.1.2.2.rc.seq) := bX.cell 2 rfl
    have x3 : W.cell? ⟨Bx, 3, none⟩ = some (.int .i64 x.1.2.2.rc.addr) := bX.cell 3 rfl
    have x4 : W.cell? ⟨Bx, 4, none⟩ = some (.int .i64 x.1.2.2.rc.val) := bX.cell 4 rfl
    have hst : Hid (lmOf (pre ++ [x]) = lmStep (lmOf pre) x.1) := lmOf_snoc pre x
    have hll : (pre ++ [x]).length = pre.length + 1 := by simp
    by_cases h1 : x.1.2.2.state = 1
    · have hra := recOk_addr (rec_of_written hpk h1)
      have hwf := wf_int (k := x.1.2.2.rc.addr) (by omega)
      have hlk := hR1.look (t := 80) Try.underlying80 Try.underlying3 zero_rec hwf
      have hmax : pre.length < maxLen := by have := HAL.out; have := HFL.out; unfold maxLen; omega
      obtain ⟨w1, hrun, hR2, hg⟩ := hR1.put (t := 80) Try.underlying80 Try.underlying3 hmax x.1.2.2.rc hwf
      have HSM := Lib.hid (show lmStep (lmOf pre) x.1 = if (((lmOf pre) x.1.2.2.rc.addr).getD rc0).seq < x.1.2.2.rc.seq then (fun a => if a = x.1.2.2.rc.addr then some x.1.2.2.rc else lmOf pre a) else lmOf pre from by
        unfold lmStep
        by_cases hc : (((lmOf pre) x.1.2.2.rc.addr).getD rc0).seq < x.1.2.2.rc.seq
        · rw [if_pos ⟨h1, hc⟩, if_pos hc]
        · rw [if_neg (fun e => hc e.2), if_neg hc])
      unfold rcV at hlk hrun
      obtain ⟨es, ck, hmap⟩ := hR1.at_
      generalize ((lmOf pre) x.1.2.2.rc.addr).getD rc0 = q at *
      rw [h1] at x0
      clear h1 hra hwf hmax hpk
      by_cases hc : q.seq < x.1.2.2.rc.seq
      · have hH := HSM.out
        rw [if_pos hc] at hH
        replace HSM := Lib.hid hH
        have H2 := Lib.hid hR2
        have HM := Lib.hid hmap
        clear hH hmap hR2
        gi_wp2
        exact ⟨KeepsFrom.of_grownBy hg (fun j e => by cases e; omega), (Below.refl _ W).grown hg hB1.size (fun k e => by cases e; exact Nat.le_refl _),
          ⟨bS1.kept hg (fun e => by injection e with e; omega), by rw [hst.out, HSM.out, hll]; exact H2.out⟩, hB1.grown hg hB1.size (fun k e => by cases e; exact Nat.le_refl _)⟩
      · have hH := HSM.out
        rw [if_neg hc] at hH
        replace HSM := Lib.hid hH
        clear hH hmap hR2 hg hrun
        gi_wp2
        exact ⟨KeepsFrom.refl _ _, Below.refl _ _, ⟨bS1, by rw [hst.out, HSM.out]; exact hR1.mono (by omega)⟩, hB1⟩
    · have hH : lmStep (lmOf pre) x.1 = lmOf pre := by unfold lmStep; rw [if_neg (fun e => h1 e.1)]
      have HSM := Lib.hid hH
      have h1' : (x.1.2.2.state == 1) = false := by simpa using h1
      clear hH h1 hpk
      gi_wp2
      exact ⟨KeepsFrom.refl _ _, Below.refl _ _, ⟨bS1, by rw [hst.out, HSM.out]; exact hR1.mono (by omega)⟩, hB1⟩
  case done =>
    rintro D ys W hD hys ⟨⟨bS1, hR1⟩, hB1⟩ hK
    have cS := bS1.cell
    gi_wp2
    refine ⟨by simp, .inl ⟨_, _, rfl, run_takeDeferred hK, ?_⟩⟩
    have hyl : ys.length ≤ 16 := by have h1 := HAL.out; have h2 := HFL.out; rw [← hys, List.length_map] at h1; omega
    have hRf : RMap Try.prog 3 W w.heap.size 16 (lastMap (allFrom 0 f)) := by rw [← hys]; exact hR1.mono hyl
    exact ⟨_, results_tmp rfl _ _ _, rfl, hRf.kept (grownBy_putObj' _ D _) (fun e => by cases e; omega), hB1.trans (belowK_b (w := w) (Nat.le_refl _) W D _ _ (by omega) hK rfl rfl)⟩
  case stop =>
    rintro D c pre W _ _ h _
    exact h.elim
end Go.Proofs.Ytohkoogmbfaceaa
