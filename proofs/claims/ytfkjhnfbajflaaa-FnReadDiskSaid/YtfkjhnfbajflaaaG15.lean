/- Walks: drawn records, drawn events. -/
import Derived.Test.YtfkjhnfbajflaaaG1
import Derived.Test.YtfkjhnfbajflaaaG14
namespace Go.Proofs.Ytfkjhnfbajflaaa
set_option linter.unusedVariables false
set_option linter.unusedSimpArgs false
open Go.RowKit Go.Maps
set_option maxHeartbeats 400000
theorem spec_pickI (n : Nat) (N : Int) (B R m : Nat) (w : World) (hN : N = n) (hn : 1 ≤ n) (hn2 : n ≤ 1000000) (hm : m ≤ 1000000) (hR : Rd w B R m) :
    Calls Try.prog 45 #[.pointer (some ⟨R, 0, none⟩), .int .i64 N] w fun e w' => ∃ k : Nat, e = .returned (.int .i64 k) ∧ k < n ∧ Rd w' B R (m + 1) ∧ Agr (· = R) w w' := by subst hN; exact spec_pick n B R m w hn hn2 hm hR
def sm (x : Int) : Prop := -1 ≤ x ∧ x ≤ 1000
def rcSmall (x : Rc) : Prop := sm x.kind ∧ sm x.seq ∧ sm x.addr ∧ sm x.val
/-- the reader is kept by what writes from L on, where R lies below L -/
theorem Rd.high {w w' : World} {B R m L : Nat} (h : Rd w B R m) (ha : Agr (fun b => L ≤ b) w w') (hL : R < L) : Rd w' B R m :=
  h.agr ha (by omega) (fun b hb => by have := h.le; omega)
set_option maxHeartbeats 4000000 in
set_option maxRecDepth 100000 in
theorem spec_l71Rec (B R m : Nat) (w : World) (hm : m ≤ 900000) (hR : Rd w B R m) :
    Calls Try.prog 61 #[.pointer (some ⟨R, 0, none⟩)] w fun e w' => ∃ x : Rc, e = .returned (.agg #[.int .i64 x.kind, .int .i64 x.seq, .int .i64 x.addr, .int .i64 x.val]) ∧ rcSmall x ∧ Rd w' B R (m + 6) ∧ Agr (· = R) w w' := by
  have hRl := hR.lt
  have hq := Row.new w #[.int .i64 0, .int .i64 0, .int .i64 0, .int .i64 0] 35
  obtain ⟨q0, f0⟩ := hq.at0 (j := 0) rfl
  obtain ⟨q1, f1⟩ := hq.at0 (j := 1) rfl
  obtain ⟨q2, f2⟩ := hq.at0 (j := 2) rfl
  obtain ⟨q3, f3⟩ := hq.at0 (j := 3) rfl
  have hR0 := hR.alloc (.cells #[.int .i64 0, .int .i64 0, .int .i64 0, .int .i64 0] 35)
  have hA0 : Agr (· = R) w (w.alloc (.cells #[.int .i64 0, .int .i64 0, .int .i64 0, .int .i64 0] 35)) := (Agr.refl _ _).alloc _
  have hs0 : w.heap.size < (w.alloc (.cells #[.int .i64 0, .int .i64 0, .int .i64 0, .int .i64 0] 35)).heap.size := by simp
  have hne : ¬ w.heap.size = R := by omega
  clear hq
  go_enter Try.func61, Try.ntmps61
  go_wp2_with fail
  refine (spec_pickI 2 2 B R (m + 0) _ rfl (by omega) (by omega) (by omega) hR0).mono ?_
  rintro e w1 ⟨k1, rfl, hk1, hR1, hB1⟩
  replace q0 := (hB1.cell hs0 hne 0).trans q0
  replace f0 := (hB1.fz hs0 hne 0).trans f0
  replace q1 := (hB1.cell hs0 hne 1).trans q1
  replace f1 := (hB1.fz hs0 hne 1).trans f1
  replace q2 := (hB1.cell hs0 hne 2).trans q2
  replace f2 := (hB1.fz hs0 hne 2).trans f2
  replace q3 := (hB1.cell hs0 hne 3).trans q3
  replace f3 := (hB1.fz hs0 hne 3).trans f3
  have hs1 : w.heap.size < w1.heap.size := Nat.lt_of_lt_of_le hs0 hB1.size
  have hA1 := hA0.trans hB1 (fun _ _ h => h)
  have e1 : IntKind.i64.wrap (1 + (k1 : Int)) = 1 + k1 := IntWalk.i64_in _ (by omega)
  clear hR0 hA0 hs0 hB1
  go_wp2_with fail
  refine (spec_pickI 40 40 B R (m + 1) _ rfl (by omega) (by omega) (by omega) hR1).mono ?_
  rintro e w2 ⟨k2, rfl, hk2, hR2, hB2⟩
  replace q0 := (hB2.cell hs1 hne 0).trans q0
  replace f0 := (hB2.fz hs1 hne 0).trans f0
  replace q1 := (hB2.cell hs1 hne 1).trans q1
  replace f1 := (hB2.fz hs1 hne 1).trans f1
  replace q2 := (hB2.cell hs1 hne 2).trans q2
  replace f2 := (hB2.fz hs1 hne 2).trans f2
  replace q3 := (hB2.cell hs1 hne 3).trans q3
  replace f3 := (hB2.fz hs1 hne 3).trans f3
  have hs2 : w.heap.size < w2.heap.size := Nat.lt_of_lt_of_le hs1 hB2.size
  have hA2 := hA1.trans hB2 (fun _ _ h => h)
  have e2 : IntKind.i64.wrap (1 + (k2 : Int)) = 1 + k2 := IntWalk.i64_in _ (by omega)
  clear hR1 hA1 hs1 hB2
  go_wp2_with fail
  refine (spec_pickI 6 6 B R (m + 2) _ rfl (by omega) (by omega) (by omega) hR2).mono ?_
  rintro e w3 ⟨k3, rfl, hk3, hR3, hB3⟩
  replace q0 := (hB3.cell hs2 hne 0).trans q0
  replace f0 := (hB3.fz hs2 hne 0).trans f0
  replace q1 := (hB3.cell hs2 hne 1).trans q1
  replace f1 := (hB3.fz hs2 hne 1).trans f1
  replace q2 := (hB3.cell hs2 hne 2).trans q2
  replace f2 := (hB3.fz hs2 hne 2).trans f2
  replace q3 := (hB3.cell hs2 hne 3).trans q3
  replace f3 := (hB3.fz hs2 hne 3).trans f3
  have hs3 : w.heap.size < w3.heap.size := Nat.lt_of_lt_of_le hs2 hB3.size
  have hA3 := hA2.trans hB3 (fun _ _ h => h)
  have e3 : IntKind.i64.wrap (1 + (k3 : Int)) = 1 + k3 := IntWalk.i64_in _ (by omega)
  clear hR2 hA2 hs2 hB3
  go_wp2_with fail
  refine (spec_pickI 10 10 B R (m + 3) _ rfl (by omega) (by omega) (by omega) hR3).mono ?_
  rintro e w4 ⟨k4, rfl, hk4, hR4, hB4⟩
  replace q0 := (hB4.cell hs3 hne 0).trans q0
  replace f0 := (hB4.fz hs3 hne 0).trans f0
  replace q1 := (hB4.cell hs3 hne 1).trans q1
  replace f1 := (hB4.fz hs3 hne 1).trans f1
  replace q2 := (hB4.cell hs3 hne 2).trans q2
  replace f2 := (hB4.fz hs3 hne 2).trans f2
  replace q3 := (hB4.cell hs3 hne 3).trans q3
  replace f3 := (hB4.fz hs3 hne 3).trans f3
  have hs4 : w.heap.size < w4.heap.size := Nat.lt_of_lt_of_le hs3 hB4.size
  have hA4 := hA3.trans hB4 (fun _ _ h => h)
  clear hR3 hA3 hs3 hB4
  obtain ⟨n4, hn4⟩ : ∃ n, n = w4.heap.size := ⟨_, rfl⟩
  have hx := Row.new w4 #[.int .i64 (1 + k1), .int .i64 (1 + k2), .int .i64 (1 + k3), .int .i64 k4] 35
  obtain ⟨x0, y0⟩ := hx.at0 (j := 0) rfl
  obtain ⟨x1, y1⟩ := hx.at0 (j := 1) rfl
  obtain ⟨x2, y2⟩ := hx.at0 (j := 2) rfl
  obtain ⟨x3, y3⟩ := hx.at0 (j := 3) rfl
  have hq2 : ∀ (i : Nat) u, w4.cell? ⟨w.heap.size, i, none⟩ = u → (w4.alloc (.cells #[.int .i64 (1 + k1), .int .i64 (1 + k2), .int .i64 (1 + k3), .int .i64 k4] 35)).cell? ⟨w.heap.size, i, none⟩ = u := fun i u h => (((Below.refl w4.heap.size w4).alloc (Nat.le_refl _) _).cell (p := ⟨w.heap.size, i, none⟩) hs4).trans h
  have hf2 : ∀ (i : Nat) u, w4.frozen? ⟨w.heap.size, i, none⟩ = u → (w4.alloc (.cells #[.int .i64 (1 + k1), .int .i64 (1 + k2), .int .i64 (1 + k3), .int .i64 k4] 35)).frozen? ⟨w.heap.size, i, none⟩ = u := fun i u h => (((Below.refl w4.heap.size w4).alloc (Nat.le_refl _) _).frozen (p := ⟨w.heap.size, i, none⟩) hs4).trans h
  replace q0 := hq2 0 _ q0
  replace f0 := hf2 0 _ f0
  replace q1 := hq2 1 _ q1
  replace f1 := hf2 1 _ f1
  replace q2 := hq2 2 _ q2
  replace f2 := hf2 2 _ f2
  replace q3 := hq2 3 _ q3
  replace f3 := hf2 3 _ f3
  have hs4' : w4.heap.size < (w4.alloc (.cells #[.int .i64 (1 + k1), .int .i64 (1 + k2), .int .i64 (1 + k3), .int .i64 k4] 35)).heap.size := by simp
  have hs4'' : w.heap.size < (w4.alloc (.cells #[.int .i64 (1 + k1), .int .i64 (1 + k2), .int .i64 (1 + k3), .int .i64 k4] 35)).heap.size := by simp; omega
  have hne4 : ¬ w4.heap.size = R := by omega
  have hAa : Agr (· = R) w (w4.alloc (.cells #[.int .i64 (1 + k1), .int .i64 (1 + k2), .int .i64 (1 + k3), .int .i64 k4] 35)) := hA4.alloc _
  clear hx hq2 hf2
  go_wp2_with fail
  refine (spec_pickI 20 20 B R (m + 4) _ rfl (by omega) (by omega) (by omega) (hR4.alloc _)).mono ?_
  rintro e w5 ⟨k5, rfl, hk5, hR5, hB5⟩
  replace q0 := (hB5.cell hs4'' hne 0).trans q0
  replace f0 := (hB5.fz hs4'' hne 0).trans f0
  replace x0 := (hB5.cell hs4' hne4 0).trans x0
  replace y0 := (hB5.fz hs4' hne4 0).trans y0
  replace q1 := (hB5.cell hs4'' hne 1).trans q1
  replace f1 := (hB5.fz hs4'' hne 1).trans f1
  replace x1 := (hB5.cell hs4' hne4 1).trans x1
  replace y1 := (hB5.fz hs4' hne4 1).trans y1
  replace q2 := (hB5.cell hs4'' hne 2).trans q2
  replace f2 := (hB5.fz hs4'' hne 2).trans f2
  replace x2 := (hB5.cell hs4' hne4 2).trans x2
  replace y2 := (hB5.fz hs4' hne4 2).trans y2
  replace q3 := (hB5.cell hs4'' hne 3).trans q3
  replace f3 := (hB5.fz hs4'' hne 3).trans f3
  replace x3 := (hB5.cell hs4' hne4 3).trans x3
  replace y3 := (hB5.fz hs4' hne4 3).trans y3
  have hs5 : w4.heap.size < w5.heap.size := Nat.lt_of_lt_of_le hs4' hB5.size
  have hA5 := hAa.trans hB5 (fun _ _ h => h)
  have hs6 : w.heap.size < n4 := by omega
  rw [← hn4] at *
  have hs5' : w.heap.size < w5.heap.size := by omega
  clear hAa hB5 hA4 hR4 hs4' hs4'' hn4
  by_cases h0 : k5 = 0
  · have t0 : ((k5 : Int) == 0) = true := by subst h0; rfl
    clear h0
    go_wp2_with fail
    refine (spec_pickI 4 4 B R (m + 5) _ rfl (by omega) (by omega) (by omega) hR5).mono ?_
    rintro e w6 ⟨k6, rfl, hk6, hR6, hB6⟩
    replace q0 := (hB6.cell hs5' hne 0).trans q0
    replace f0 := (hB6.fz hs5' hne 0).trans f0
    replace x0 := (hB6.cell hs5 hne4 0).trans x0
    replace y0 := (hB6.fz hs5 hne4 0).trans y0
    replace q1 := (hB6.cell hs5' hne 1).trans q1
    replace f1 := (hB6.fz hs5' hne 1).trans f1
    replace x1 := (hB6.cell hs5 hne4 1).trans x1
    replace y1 := (hB6.fz hs5 hne4 1).trans y1
    replace q2 := (hB6.cell hs5' hne 2).trans q2
    replace f2 := (hB6.fz hs5' hne 2).trans f2
    replace x2 := (hB6.cell hs5 hne4 2).trans x2
    replace y2 := (hB6.fz hs5 hne4 2).trans y2
    replace q3 := (hB6.cell hs5' hne 3).trans q3
    replace f3 := (hB6.fz hs5' hne 3).trans f3
    replace x3 := (hB6.cell hs5 hne4 3).trans x3
    replace y3 := (hB6.fz hs5 hne4 3).trans y3
    have hA6 := hA5.trans hB6 (fun _ _ h => h)
    have hs6' : n4 < w6.heap.size := Nat.lt_of_lt_of_le hs5 hB6.size
    have hs6'' : w.heap.size < w6.heap.size := by omega
    clear hB6 hA5 hR5
    go_wp2
    refine bodyPost_ret (v := .agg #[.int .i64 ((k6 : Int)), .int .i64 (1 + (k2 : Int)), .int .i64 (1 + (k3 : Int)), .int .i64 ((k4 : Int))]) (by simp [results, Try.results61, go_sem, q0, q1, q2, q3]) rfl ⟨⟨(k6 : Int), 1 + (k2 : Int), 1 + (k3 : Int), (k4 : Int)⟩, rfl, ⟨⟨by dsimp only; omega, by dsimp only; omega⟩, ⟨by dsimp only; omega, by dsimp only; omega⟩, ⟨by dsimp only; omega, by dsimp only; omega⟩, ⟨by dsimp only; omega, by dsimp only; omega⟩⟩, ?_, ?_⟩
    · refine (Rd.high (L := w.heap.size) hR6 ?_ hRl).mono (by omega)
      repeat (with_reducible refine Agr.setCell ?_ (.inr (by first | exact Nat.le_refl _ | (show w.heap.size ≤ n4; omega))) _)
      with_reducible exact Agr.refl _ _
    · repeat (with_reducible refine Agr.setCell ?_ (.inl (by first | exact Nat.le_refl _ | (show w.heap.size ≤ n4; omega))) _)
      with_reducible exact hA6
  · have t0 : ((k5 : Int) == 0) = false := by rw [beq_eq_false_iff_ne]; omega
    by_cases h1 : k5 = 1
    · have t1 : ((k5 : Int) == 1) = true := by subst h1; rfl
      clear h0 h1
      have hz := Row.new w5 #[.int .i64 (0), .int .i64 (600), .int .i64 (601)] 3
      have hR5a := hR5.alloc (.cells #[.int .i64 (0), .int .i64 (600), .int .i64 (601)] 3)
      have hA5a := hA5.alloc (.cells #[.int .i64 (0), .int .i64 (600), .int .i64 (601)] 3)
      have hal : ∀ (i : Nat) u b, b < w5.heap.size → w5.cell? ⟨b, i, none⟩ = u → (w5.alloc (.cells #[.int .i64 (0), .int .i64 (600), .int .i64 (601)] 3)).cell? ⟨b, i, none⟩ = u := fun i u b hb h => (((Below.refl w5.heap.size w5).alloc (Nat.le_refl _) _).cell (p := ⟨b, i, none⟩) hb).trans h
      have hfl : ∀ (i : Nat) u b, b < w5.heap.size → w5.frozen? ⟨b, i, none⟩ = u → (w5.alloc (.cells #[.int .i64 (0), .int .i64 (600), .int .i64 (601)] 3)).frozen? ⟨b, i, none⟩ = u := fun i u b hb h => (((Below.refl w5.heap.size w5).alloc (Nat.le_refl _) _).frozen (p := ⟨b, i, none⟩) hb).trans h
      replace q0 := hal 0 _ _ hs5' q0
      replace f0 := hfl 0 _ _ hs5' f0
      replace x0 := hal 0 _ _ hs5 x0
      replace y0 := hfl 0 _ _ hs5 y0
      replace q1 := hal 1 _ _ hs5' q1
      replace f1 := hfl 1 _ _ hs5' f1
      replace x1 := hal 1 _ _ hs5 x1
      replace y1 := hfl 1 _ _ hs5 y1
      replace q2 := hal 2 _ _ hs5' q2
      replace f2 := hfl 2 _ _ hs5' f2
      replace x2 := hal 2 _ _ hs5 x2
      replace y2 := hfl 2 _ _ hs5 y2
      replace q3 := hal 3 _ _ hs5' q3
      replace f3 := hfl 3 _ _ hs5' f3
      replace x3 := hal 3 _ _ hs5 x3
      replace y3 := hfl 3 _ _ hs5 y3
      have hsa : w5.heap.size < (w5.alloc (.cells #[.int .i64 (0), .int .i64 (600), .int .i64 (601)] 3)).heap.size := by simp
      have hsb : n4 < (w5.alloc (.cells #[.int .i64 (0), .int .i64 (600), .int .i64 (601)] 3)).heap.size := by simp; omega
      have hsc : w.heap.size < (w5.alloc (.cells #[.int .i64 (0), .int .i64 (600), .int .i64 (601)] 3)).heap.size := by simp; omega
      have hne5 : ¬ w5.heap.size = R := by omega
      clear hal hfl
      go_wp2_with fail
      refine (spec_pickI 3 3 B R (m + 5) _ rfl (by omega) (by omega) (by omega) hR5a).mono ?_
      rintro e w6 ⟨k6, rfl, hk6, hR6, hB6⟩
      obtain ⟨v, hv, hv1, hv2⟩ : ∃ v : Int, (#[.int .i64 (0), .int .i64 (600), .int .i64 (601)] : Array Value).toList[k6]? = some (.int .i64 v) ∧ -1 ≤ v ∧ v ≤ 1000 := by
        rcases (by omega : k6 = 0 ∨ k6 = 1 ∨ k6 = 2) with rfl | rfl | rfl <;> exact ⟨_, rfl, by omega, by omega⟩
      have z0 := (hB6.cell hsa hne5 k6).trans (hz.at0 hv).1
      replace q0 := (hB6.cell hsc hne 0).trans q0
      replace f0 := (hB6.fz hsc hne 0).trans f0
      replace x0 := (hB6.cell hsb hne4 0).trans x0
      replace y0 := (hB6.fz hsb hne4 0).trans y0
      replace q1 := (hB6.cell hsc hne 1).trans q1
      replace f1 := (hB6.fz hsc hne 1).trans f1
      replace x1 := (hB6.cell hsb hne4 1).trans x1
      replace y1 := (hB6.fz hsb hne4 1).trans y1
      replace q2 := (hB6.cell hsc hne 2).trans q2
      replace f2 := (hB6.fz hsc hne 2).trans f2
      replace x2 := (hB6.cell hsb hne4 2).trans x2
      replace y2 := (hB6.fz hsb hne4 2).trans y2
      replace q3 := (hB6.cell hsc hne 3).trans q3
      replace f3 := (hB6.fz hsc hne 3).trans f3
      replace x3 := (hB6.cell hsb hne4 3).trans x3
      replace y3 := (hB6.fz hsb hne4 3).trans y3
      have hA6 := hA5a.trans hB6 (fun _ _ h => h)
      have hs6' : n4 < w6.heap.size := Nat.lt_of_lt_of_le hsb hB6.size
      have hs6'' : w.heap.size < w6.heap.size := by omega
      have hk6' : (k6 : Int) < 3 := by omega
      clear hB6 hsa hsb hsc hR5a hA5a hz hv hA5 hR5 hk6
      go_wp2
      refine bodyPost_ret (v := .agg #[.int .i64 (1 + (k1 : Int)), .int .i64 (v), .int .i64 (1 + (k3 : Int)), .int .i64 ((k4 : Int))]) (by simp [results, Try.results61, go_sem, q0, q1, q2, q3]) rfl ⟨⟨1 + (k1 : Int), v, 1 + (k3 : Int), (k4 : Int)⟩, rfl, ⟨⟨by dsimp only; omega, by dsimp only; omega⟩, ⟨by dsimp only; omega, by dsimp only; omega⟩, ⟨by dsimp only; omega, by dsimp only; omega⟩, ⟨by dsimp only; omega, by dsimp only; omega⟩⟩, ?_, ?_⟩
      · refine (Rd.high (L := w.heap.size) hR6 ?_ hRl).mono (by omega)
        repeat (with_reducible refine Agr.setCell ?_ (.inr (by first | exact Nat.le_refl _ | (show w.heap.size ≤ n4; omega))) _)
        with_reducible exact Agr.refl _ _
      · repeat (with_reducible refine Agr.setCell ?_ (.inl (by first | exact Nat.le_refl _ | (show w.heap.size ≤ n4; omega))) _)
        with_reducible exact hA6
    · have t1 : ((k5 : Int) == 1) = false := by rw [beq_eq_false_iff_ne]; omega
      by_cases h2 : k5 = 2
      · have t2 : ((k5 : Int) == 2) = true := by subst h2; rfl
        clear h0 h1 h2
        have hz := Row.new w5 #[.int .i64 (0), .int .i64 (7)] 3
        have hR5a := hR5.alloc (.cells #[.int .i64 (0), .int .i64 (7)] 3)
        have hA5a := hA5.alloc (.cells #[.int .i64 (0), .int .i64 (7)] 3)
        have hal : ∀ (i : Nat) u b, b < w5.heap.size → w5.cell? ⟨b, i, none⟩ = u → (w5.alloc (.cells #[.int .i64 (0), .int .i64 (7)] 3)).cell? ⟨b, i, none⟩ = u := fun i u b hb h => (((Below.refl w5.heap.size w5).alloc (Nat.le_refl _) _).cell (p := ⟨b, i, none⟩) hb).trans h
        have hfl : ∀ (i : Nat) u b, b < w5.heap.size → w5.frozen? ⟨b, i, none⟩ = u → (w5.alloc (.cells #[.int .i64 (0), .int .i64 (7)] 3)).frozen? ⟨b, i, none⟩ = u := fun i u b hb h => (((Below.refl w5.heap.size w5).alloc (Nat.le_refl _) _).frozen (p := ⟨b, i, none⟩) hb).trans h
        replace q0 := hal 0 _ _ hs5' q0
        replace f0 := hfl 0 _ _ hs5' f0
        replace x0 := hal 0 _ _ hs5 x0
        replace y0 := hfl 0 _ _ hs5 y0
        replace q1 := hal 1 _ _ hs5' q1
        replace f1 := hfl 1 _ _ hs5' f1
        replace x1 := hal 1 _ _ hs5 x1
        replace y1 := hfl 1 _ _ hs5 y1
        replace q2 := hal 2 _ _ hs5' q2
        replace f2 := hfl 2 _ _ hs5' f2
        replace x2 := hal 2 _ _ hs5 x2
        replace y2 := hfl 2 _ _ hs5 y2
        replace q3 := hal 3 _ _ hs5' q3
        replace f3 := hfl 3 _ _ hs5' f3
        replace x3 := hal 3 _ _ hs5 x3
        replace y3 := hfl 3 _ _ hs5 y3
        have hsa : w5.heap.size < (w5.alloc (.cells #[.int .i64 (0), .int .i64 (7)] 3)).heap.size := by simp
        have hsb : n4 < (w5.alloc (.cells #[.int .i64 (0), .int .i64 (7)] 3)).heap.size := by simp; omega
        have hsc : w.heap.size < (w5.alloc (.cells #[.int .i64 (0), .int .i64 (7)] 3)).heap.size := by simp; omega
        have hne5 : ¬ w5.heap.size = R := by omega
        clear hal hfl
        go_wp2_with fail
        refine (spec_pickI 2 2 B R (m + 5) _ rfl (by omega) (by omega) (by omega) hR5a).mono ?_
        rintro e w6 ⟨k6, rfl, hk6, hR6, hB6⟩
        obtain ⟨v, hv, hv1, hv2⟩ : ∃ v : Int, (#[.int .i64 (0), .int .i64 (7)] : Array Value).toList[k6]? = some (.int .i64 v) ∧ -1 ≤ v ∧ v ≤ 1000 := by
          rcases (by omega : k6 = 0 ∨ k6 = 1) with rfl | rfl <;> exact ⟨_, rfl, by omega, by omega⟩
        have z0 := (hB6.cell hsa hne5 k6).trans (hz.at0 hv).1
        replace q0 := (hB6.cell hsc hne 0).trans q0
        replace f0 := (hB6.fz hsc hne 0).trans f0
        replace x0 := (hB6.cell hsb hne4 0).trans x0
        replace y0 := (hB6.fz hsb hne4 0).trans y0
        replace q1 := (hB6.cell hsc hne 1).trans q1
        replace f1 := (hB6.fz hsc hne 1).trans f1
        replace x1 := (hB6.cell hsb hne4 1).trans x1
        replace y1 := (hB6.fz hsb hne4 1).trans y1
        replace q2 := (hB6.cell hsc hne 2).trans q2
        replace f2 := (hB6.fz hsc hne 2).trans f2
        replace x2 := (hB6.cell hsb hne4 2).trans x2
        replace y2 := (hB6.fz hsb hne4 2).trans y2
        replace q3 := (hB6.cell hsc hne 3).trans q3
        replace f3 := (hB6.fz hsc hne 3).trans f3
        replace x3 := (hB6.cell hsb hne4 3).trans x3
        replace y3 := (hB6.fz hsb hne4 3).trans y3
        have hA6 := hA5a.trans hB6 (fun _ _ h => h)
        have hs6' : n4 < w6.heap.size := Nat.lt_of_lt_of_le hsb hB6.size
        have hs6'' : w.heap.size < w6.heap.size := by omega
        have hk6' : (k6 : Int) < 2 := by omega
        clear hB6 hsa hsb hsc hR5a hA5a hz hv hA5 hR5 hk6
        go_wp2
        refine bodyPost_ret (v := .agg #[.int .i64 (1 + (k1 : Int)), .int .i64 (1 + (k2 : Int)), .int .i64 (v), .int .i64 ((k4 : Int))]) (by simp [results, Try.results61, go_sem, q0, q1, q2, q3]) rfl ⟨⟨1 + (k1 : Int), 1 + (k2 : Int), v, (k4 : Int)⟩, rfl, ⟨⟨by dsimp only; omega, by dsimp only; omega⟩, ⟨by dsimp only; omega, by dsimp only; omega⟩, ⟨by dsimp only; omega, by dsimp only; omega⟩, ⟨by dsimp only; omega, by dsimp only; omega⟩⟩, ?_, ?_⟩
        · refine (Rd.high (L := w.heap.size) hR6 ?_ hRl).mono (by omega)
          repeat (with_reducible refine Agr.setCell ?_ (.inr (by first | exact Nat.le_refl _ | (show w.heap.size ≤ n4; omega))) _)
          with_reducible exact Agr.refl _ _
        · repeat (with_reducible refine Agr.setCell ?_ (.inl (by first | exact Nat.le_refl _ | (show w.heap.size ≤ n4; omega))) _)
          with_reducible exact hA6
      · have t2 : ((k5 : Int) == 2) = false := by rw [beq_eq_false_iff_ne]; omega
        by_cases h3 : k5 = 3
        · have t3 : ((k5 : Int) == 3) = true := by subst h3; rfl
          clear h0 h1 h2 h3
          have hz := Row.new w5 #[.int .i64 (-1), .int .i64 (10)] 3
          have hR5a := hR5.alloc (.cells #[.int .i64 (-1), .int .i64 (10)] 3)
          have hA5a := hA5.alloc (.cells #[.int .i64 (-1), .int .i64 (10)] 3)
          have hal : ∀ (i : Nat) u b, b < w5.heap.size → w5.cell? ⟨b, i, none⟩ = u → (w5.alloc (.cells #[.int .i64 (-1), .int .i64 (10)] 3)).cell? ⟨b, i, none⟩ = u := fun i u b hb h => (((Below.refl w5.heap.size w5).alloc (Nat.le_refl _) _).cell (p := ⟨b, i, none⟩) hb).trans h
          have hfl : ∀ (i : Nat) u b, b < w5.heap.size → w5.frozen? ⟨b, i, none⟩ = u → (w5.alloc (.cells #[.int .i64 (-1), .int .i64 (10)] 3)).frozen? ⟨b, i, none⟩ = u := fun i u b hb h => (((Below.refl w5.heap.size w5).alloc (Nat.le_refl _) _).frozen (p := ⟨b, i, none⟩) hb).trans h
          replace q0 := hal 0 _ _ hs5' q0
          replace f0 := hfl 0 _ _ hs5' f0
          replace x0 := hal 0 _ _ hs5 x0
          replace y0 := hfl 0 _ _ hs5 y0
          replace q1 := hal 1 _ _ hs5' q1
          replace f1 := hfl 1 _ _ hs5' f1
          replace x1 := hal 1 _ _ hs5 x1
          replace y1 := hfl 1 _ _ hs5 y1
          replace q2 := hal 2 _ _ hs5' q2
          replace f2 := hfl 2 _ _ hs5' f2
          replace x2 := hal 2 _ _ hs5 x2
          replace y2 := hfl 2 _ _ hs5 y2
          replace q3 := hal 3 _ _ hs5' q3
          replace f3 := hfl 3 _ _ hs5' f3
          replace x3 := hal 3 _ _ hs5 x3
          replace y3 := hfl 3 _ _ hs5 y3
          have hsa : w5.heap.size < (w5.alloc (.cells #[.int .i64 (-1), .int .i64 (10)] 3)).heap.size := by simp
          have hsb : n4 < (w5.alloc (.cells #[.int .i64 (-1), .int .i64 (10)] 3)).heap.size := by simp; omega
          have hsc : w.heap.size < (w5.alloc (.cells #[.int .i64 (-1), .int .i64 (10)] 3)).heap.size := by simp; omega
          have hne5 : ¬ w5.heap.size = R := by omega
          clear hal hfl
          go_wp2_with fail
          refine (spec_pickI 2 2 B R (m + 5) _ rfl (by omega) (by omega) (by omega) hR5a).mono ?_
          rintro e w6 ⟨k6, rfl, hk6, hR6, hB6⟩
          obtain ⟨v, hv, hv1, hv2⟩ : ∃ v : Int, (#[.int .i64 (-1), .int .i64 (10)] : Array Value).toList[k6]? = some (.int .i64 v) ∧ -1 ≤ v ∧ v ≤ 1000 := by
            rcases (by omega : k6 = 0 ∨ k6 = 1) with rfl | rfl <;> exact ⟨_, rfl, by omega, by omega⟩
          have z0 := (hB6.cell hsa hne5 k6).trans (hz.at0 hv).1
          replace q0 := (hB6.cell hsc hne 0).trans q0
          replace f0 := (hB6.fz hsc hne 0).trans f0
          replace x0 := (hB6.cell hsb hne4 0).trans x0
          replace y0 := (hB6.fz hsb hne4 0).trans y0
          replace q1 := (hB6.cell hsc hne 1).trans q1
          replace f1 := (hB6.fz hsc hne 1).trans f1
          replace x1 := (hB6.cell hsb hne4 1).trans x1
          replace y1 := (hB6.fz hsb hne4 1).trans y1
          replace q2 := (hB6.cell hsc hne 2).trans q2
          replace f2 := (hB6.fz hsc hne 2).trans f2
          replace x2 := (hB6.cell hsb hne4 2).trans x2
          replace y2 := (hB6.fz hsb hne4 2).trans y2
          replace q3 := (hB6.cell hsc hne 3).trans q3
          replace f3 := (hB6.fz hsc hne 3).trans f3
          replace x3 := (hB6.cell hsb hne4 3).trans x3
          replace y3 := (hB6.fz hsb hne4 3).trans y3
          have hA6 := hA5a.trans hB6 (fun _ _ h => h)
          have hs6' : n4 < w6.heap.size := Nat.lt_of_lt_of_le hsb hB6.size
          have hs6'' : w.heap.size < w6.heap.size := by omega
          have hk6' : (k6 : Int) < 2 := by omega
          clear hB6 hsa hsb hsc hR5a hA5a hz hv hA5 hR5 hk6
          go_wp2
          refine bodyPost_ret (v := .agg #[.int .i64 (1 + (k1 : Int)), .int .i64 (1 + (k2 : Int)), .int .i64 (1 + (k3 : Int)), .int .i64 (v)]) (by simp [results, Try.results61, go_sem, q0, q1, q2, q3]) rfl ⟨⟨1 + (k1 : Int), 1 + (k2 : Int), 1 + (k3 : Int), v⟩, rfl, ⟨⟨by dsimp only; omega, by dsimp only; omega⟩, ⟨by dsimp only; omega, by dsimp only; omega⟩, ⟨by dsimp only; omega, by dsimp only; omega⟩, ⟨by dsimp only; omega, by dsimp only; omega⟩⟩, ?_, ?_⟩
          · refine (Rd.high (L := w.heap.size) hR6 ?_ hRl).mono (by omega)
            repeat (with_reducible refine Agr.setCell ?_ (.inr (by first | exact Nat.le_refl _ | (show w.heap.size ≤ n4; omega))) _)
            with_reducible exact Agr.refl _ _
          · repeat (with_reducible refine Agr.setCell ?_ (.inl (by first | exact Nat.le_refl _ | (show w.heap.size ≤ n4; omega))) _)
            with_reducible exact hA6
        · have t3 : ((k5 : Int) == 3) = false := by rw [beq_eq_false_iff_ne]; omega
          clear h0 h1 h2 h3
          go_wp2
          refine bodyPost_ret (v := .agg #[.int .i64 (1 + (k1 : Int)), .int .i64 (1 + (k2 : Int)), .int .i64 (1 + (k3 : Int)), .int .i64 ((k4 : Int))]) (by simp [results, Try.results61, go_sem, q0, q1, q2, q3]) rfl ⟨⟨1 + (k1 : Int), 1 + (k2 : Int), 1 + (k3 : Int), (k4 : Int)⟩, rfl, ⟨⟨by dsimp only; omega, by dsimp only; omega⟩, ⟨by dsimp only; omega, by dsimp only; omega⟩, ⟨by dsimp only; omega, by dsimp only; omega⟩, ⟨by dsimp only; omega, by dsimp only; omega⟩⟩, ?_, ?_⟩
          · refine (Rd.high (L := w.heap.size) hR5 ?_ hRl).mono (by omega)
            repeat (with_reducible refine Agr.setCell ?_ (.inr (by first | exact Nat.le_refl _ | (show w.heap.size ≤ n4; omega))) _)
            with_reducible exact Agr.refl _ _
          · repeat (with_reducible refine Agr.setCell ?_ (.inl (by first | exact Nat.le_refl _ | (show w.heap.size ≤ n4; omega))) _)
            with_reducible exact hA5
end Go.Proofs.Ytfkjhnfbajflaaa
