/- Walks: an event. -/
import Derived.Test.YtfkjhnfbajflaaaG13
import Derived.Deep.RegionHeld3
namespace Go.Proofs.Ytfkjhnfbajflaaa
set_option linter.unusedVariables false
set_option linter.unusedSimpArgs false
open Go.RowKit Go.Maps
set_option maxHeartbeats 400000
theorem stepsOf_len {s : St} (h : stFine s) (e : Ev) : (stepsOf s e).length ≤ 8 := by
  have h1 := wr_len h.1.1 (stFine_pages h)
  unfold stepsOf
  split
  · have := h1 1 e.a e.b; omega
  · split
    · have := flush_len h e.a; omega
    · split
      · unfold fill
        split
        · simp
        · have := h1 2 e.a (s.disk.getD (e.a - 1).toNat 0); omega
      · simp
set_option maxHeartbeats 4000000 in
set_option maxRecDepth 100000 in
theorem spec_l21Do (s : St) (e : Ev) (A D : Option Addr) (c d lo hi : Nat) (w : World) (hs : stFine s) (hhi : hi ≤ w.heap.size) (hO : OSt w lo hi A s.flash D s.disk) :
    Calls Try.prog 71 #[.agg #[.slice A 4 c, .slice D 6 d], .agg #[.int .i64 e.kind, .int .i64 e.a, .int .i64 e.b, .int .i64 e.c, .bool e.torn]] w fun r w' =>
      r = .returned (.agg #[.slice A 4 c, .slice D 6 d]) ∧ OSt w' lo hi A (doEv s e).flash D (doEv s e).disk ∧ Agr (fun b => lo ≤ b ∧ b < hi) w w' := by
  obtain ⟨k, a, b, cc, t⟩ := e
  dsimp only
  have HS := Lib.hid hs
  have hfin : Hid (doEv s ⟨k, a, b, cc, t⟩ = if k = 4 then doEvery s else if cc < 0 then s else doTo s (stepsOf s ⟨k, a, b, cc, t⟩) cc t) := rfl
  obtain ⟨W, hW⟩ : ∃ W, W = ((w.alloc (.cells #[.slice A 4 c, .slice D 6 d] 39)).alloc (.cells #[.int .i64 k, .int .i64 a, .int .i64 b, .int .i64 cc, .bool t] 101)).alloc (.cells #[.slice none 0 0, .slice none 0 0] 39) := ⟨_, rfl⟩
  have hOW : OSt W lo hi A s.flash D s.disk := by rw [hW]; exact ((hO.alloc' _).alloc' _).alloc' _
  have hAW : Agr (fun y => lo ≤ y ∧ y < hi) w W := by rw [hW]; exact (((Agr.refl _ _).alloc _).alloc _).alloc _
  have b0 : W.cell? ⟨w.heap.size, 0, none⟩ = some (.slice A 4 c) := by rw [hW]; exact cell3 (by simp)
  have b1 : W.cell? ⟨w.heap.size, 1, none⟩ = some (.slice D 6 d) := by rw [hW]; exact cell3 (by simp)
  have hM := ((Row.new (w.alloc (.cells #[.slice A 4 c, .slice D 6 d] 39)) #[.int .i64 k, .int .i64 a, .int .i64 b, .int .i64 cc, .bool t] 101).alloc (.cells #[.slice none 0 0, .slice none 0 0] 39))
  rw [← hW] at hM
  simp only [World.size_alloc] at hM
  have c0 := (hM.at0 (j := 0) rfl).1
  have c1 := (hM.at0 (j := 1) rfl).1
  have c2 := (hM.at0 (j := 2) rfl).1
  have c3 := (hM.at0 (j := 3) rfl).1
  have c4 := (hM.at0 (j := 4) rfl).1
  have hT := top3 w (.cells #[.slice A 4 c, .slice D 6 d] 39) (.cells #[.int .i64 k, .int .i64 a, .int .i64 b, .int .i64 cc, .bool t] 101) #[.slice none 0 0, .slice none 0 0] 39
  rw [← hW] at hT
  have q0 := (hT.at0 (j := 0) rfl).1
  have q1 := (hT.at0 (j := 1) rfl).1
  have q2 := (hT.at0 (j := 0) rfl).2
  have q3 := (hT.at0 (j := 1) rfl).2
  have hWs : W.heap.size = w.heap.size + 1 + 1 + 1 := by rw [hW]; simp
  have HW := Lib.hid hW
  clear hW hs hT hM
  by_cases h4 : k = 4
  · subst h4
    have h3 : Hid (doEv s ⟨4, a, b, cc, t⟩ = doEvery s) := by rw [Hid, hfin.out, if_pos rfl]
    go_enter Try.func71, Try.ntmps71
    go_wp2_with fail
    rw [← HW.out]
    refine (spec_l21All s A D c d lo hi _ HS.out (by omega) hOW).mono ?_
    rintro e w1 ⟨rfl, hO1, hA1⟩
    replace q0 := (hA1.cell (by omega) (by omega) 0).trans q0
    replace q1 := (hA1.cell (by omega) (by omega) 1).trans q1
    replace q2 := (hA1.fz (by omega) (by omega) 0).trans q2
    replace q3 := (hA1.fz (by omega) (by omega) 1).trans q3
    have hA2 := hAW.trans hA1 (fun b _ hb => hb)
    have hs1 := hA1.size
    clear hA1 hOW hAW
    go_wp2
    refine bodyPost_ret (v := .agg #[.slice A 4 c, .slice D 6 d]) (by simp [results, Try.results71, go_sem, q0, q1]) rfl ⟨rfl, ?_, ?_⟩
    · rw [h3.out]
      refine hO1.keep fun y _ h2 _ => ?_
      rw [Below.heap_setCell _ _ _ _ (by show y ≠ w.heap.size + 1 + 1; omega), Below.heap_setCell _ _ _ _ (by show y ≠ w.heap.size + 1 + 1; omega)]
    · exact (hA2.setCell (.inl (by show w.heap.size ≤ w.heap.size + 1 + 1; omega)) _).setCell (.inl (by show w.heap.size ≤ w.heap.size + 1 + 1; omega)) _
  · have h4' : (k == 4) = false := by simpa using h4
    by_cases hc : cc < 0
    · have h3 : Hid (doEv s ⟨k, a, b, cc, t⟩ = s) := by rw [Hid, hfin.out, if_neg h4, if_pos hc]
      go_enter Try.func71, Try.ntmps71
      go_wp2
      refine bodyPost_ret (v := .agg #[.slice A 4 c, .slice D 6 d]) (by simp [results, Try.results71, go_sem]) rfl ⟨rfl, ?_, ?_⟩
      · rw [h3.out]
        exact ((hO.alloc' _).alloc' _).alloc' _
      · exact (((Agr.refl _ _).alloc _).alloc _).alloc _
    · have h3 : Hid (doEv s ⟨k, a, b, cc, t⟩ = doTo s (stepsOf s ⟨k, a, b, cc, t⟩) cc t) := by rw [Hid, hfin.out, if_neg h4, if_neg hc]
      have hW1 : w.heap.size < W.drew.heap.size := by show w.heap.size < W.heap.size; omega
      have hW2 : w.heap.size + 1 < W.drew.heap.size := by show w.heap.size + 1 < W.heap.size; omega
      have hW3 : w.heap.size + 1 + 1 < W.drew.heap.size := by show w.heap.size + 1 + 1 < W.heap.size; omega
      have hff := Lib.hid (stepsOf_fine HS.out ⟨k, a, b, cc, t⟩)
      have hfl := stepsOf_len HS.out ⟨k, a, b, cc, t⟩
      have hO0 := hOW.drew
      have hsz : w.heap.size + 1 + 1 < W.heap.size := by omega
      have h5 := Lib.hid (spec_l21Steps s ⟨k, a, b, cc, t⟩ A D c d W.drew HS.out.1.1 (stFine_pages HS.out) (most_small HS.out.1) HS.out.2.1 hO0.ofl.fl hO0.disk)
      generalize stepsOf s ⟨k, a, b, cc, t⟩ = xs at *
      go_enter Try.func71, Try.ntmps71
      go_wp2_with fail
      rw [← HW.out]
      have db0 : W.drew.cell? ⟨w.heap.size, 0, none⟩ = some (.slice A 4 c) := b0
      have db1 : W.drew.cell? ⟨w.heap.size, 1, none⟩ = some (.slice D 6 d) := b1
      have dc0 : W.drew.cell? ⟨w.heap.size + 1, 0, none⟩ = some (.int .i64 k) := c0
      have dc1 : W.drew.cell? ⟨w.heap.size + 1, 1, none⟩ = some (.int .i64 a) := c1
      have dc2 : W.drew.cell? ⟨w.heap.size + 1, 2, none⟩ = some (.int .i64 b) := c2
      have dc3 : W.drew.cell? ⟨w.heap.size + 1, 3, none⟩ = some (.int .i64 cc) := c3
      have dc4 : W.drew.cell? ⟨w.heap.size + 1, 4, none⟩ = some (.bool t) := c4
      have dq0 : W.drew.cell? ⟨w.heap.size + 1 + 1, 0, none⟩ = some (.slice none 0 0) := q0
      have dq1 : W.drew.cell? ⟨w.heap.size + 1 + 1, 1, none⟩ = some (.slice none 0 0) := q1
      have dq2 : W.drew.frozen? ⟨w.heap.size + 1 + 1, 0, none⟩ = false := q2
      have dq3 : W.drew.frozen? ⟨w.heap.size + 1 + 1, 1, none⟩ = false := q3
      have hAd : Agr (fun y => lo ≤ y ∧ y < hi) w W.drew := hAW.drew
      have hid : hi ≤ W.drew.heap.size := by show hi ≤ W.heap.size; omega
      have hWd : W.drew.heap.size = w.heap.size + 1 + 1 + 1 := hWs
      have n1 : w.heap.size + 1 + 1 ≠ w.heap.size := by omega
      have n2 : w.heap.size + 1 + 1 ≠ w.heap.size + 1 := by omega
      go_region_held3 (fun w' => w'.cell? ⟨w.heap.size, 0, none⟩ = some (.slice A 4 c) ∧ w'.cell? ⟨w.heap.size, 1, none⟩ = some (.slice D 6 d) ∧ w'.cell? ⟨w.heap.size + 1, 0, none⟩ = some (.int .i64 k) ∧ w'.cell? ⟨w.heap.size + 1, 1, none⟩ = some (.int .i64 a) ∧ w'.cell? ⟨w.heap.size + 1, 2, none⟩ = some (.int .i64 b) ∧ w'.cell? ⟨w.heap.size + 1, 3, none⟩ = some (.int .i64 cc) ∧ w'.cell? ⟨w.heap.size + 1, 4, none⟩ = some (.bool t))
        (first | go_keep | trivial)
        (first
          | (go_at_call 75; with_reducible refine h5.out.mono ?_; rintro e w1 ⟨v, rfl, hOS, hb⟩; obtain ⟨V, cs, rfl, hcs, hRow, hblk⟩ := hOS.shape; have hO1 := hO0.below hb (Nat.le_refl _); have hs1 := hb.size; obtain ⟨hc1, hf1⟩ := bcell hb; have ib0 := (hc1 _ 0 hW1).trans db0; have ib1 := (hc1 _ 1 hW1).trans db1; have ic0 := (hc1 _ 0 hW2).trans dc0; have ic1 := (hc1 _ 1 hW2).trans dc1; have ic2 := (hc1 _ 2 hW2).trans dc2; have ic3 := (hc1 _ 3 hW2).trans dc3; have ic4 := (hc1 _ 4 hW2).trans dc4; have iq0 := (hc1 _ 0 hW3).trans dq0; have iq1 := (hc1 _ 1 hW3).trans dq1; have iq2 := (hf1 _ 0 hW3).trans dq2; have iq3 := (hf1 _ 1 hW3).trans dq3; have hA1 := hAd.trans (S' := fun _ => False) (Agr.of_below hb) (fun b hb e => absurd e id); clear hb hc1 hf1)
          | (go_at_call 74; with_reducible refine (spec_l12To s xs cc t A D V c d cs lo hi _ HS.out hff.out (by omega) (by omega) hO1 hRow (fun b hb => by have := hblk b hb; omega)).mono ?_; rintro e w2 ⟨rfl, hO2, hA2⟩; have kb0 := (hA2.cell (b := w.heap.size) (by omega) (by omega) 0).trans ib0; have kb1 := (hA2.cell (b := w.heap.size) (by omega) (by omega) 1).trans ib1; have kc0 := (hA2.cell (b := w.heap.size + 1) (by omega) (by omega) 0).trans ic0; have kc1 := (hA2.cell (b := w.heap.size + 1) (by omega) (by omega) 1).trans ic1; have kc2 := (hA2.cell (b := w.heap.size + 1) (by omega) (by omega) 2).trans ic2; have kc3 := (hA2.cell (b := w.heap.size + 1) (by omega) (by omega) 3).trans ic3; have kc4 := (hA2.cell (b := w.heap.size + 1) (by omega) (by omega) 4).trans ic4; have kq0 := (hA2.cell (b := w.heap.size + 1 + 1) (by omega) (by omega) 0).trans iq0; have kq1 := (hA2.cell (b := w.heap.size + 1 + 1) (by omega) (by omega) 1).trans iq1; have kq2 := (hA2.fz (b := w.heap.size + 1 + 1) (by omega) (by omega) 0).trans iq2; have kq3 := (hA2.fz (b := w.heap.size + 1 + 1) (by omega) (by omega) 1).trans iq3))
      have hA3 := hA1.trans hA2 (fun b _ hb => hb)
      have hs2 := hA2.size
      clear hA1 hA2 hAd hAW
      go_wp2
      refine bodyPost_ret (v := .agg #[.slice A 4 c, .slice D 6 d]) (by simp [results, Try.results71, go_sem, kq0, kq1]) rfl ⟨rfl, ?_, ?_⟩
      · rw [h3.out]
        refine hO2.keep fun y _ h2 _ => ?_
        rw [Below.heap_setCell _ _ _ _ (by show y ≠ w.heap.size + 1 + 1; omega), Below.heap_setCell _ _ _ _ (by show y ≠ w.heap.size + 1 + 1; omega)]
      · exact (hA3.setCell (.inl (by show w.heap.size ≤ w.heap.size + 1 + 1; omega)) _).setCell (.inl (by show w.heap.size ≤ w.heap.size + 1 + 1; omega)) _
end Go.Proofs.Ytfkjhnfbajflaaa
