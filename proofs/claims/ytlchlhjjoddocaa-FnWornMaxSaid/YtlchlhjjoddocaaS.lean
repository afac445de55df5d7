/- Walks: the reference's small functions; is a flash ok. -/
import Derived.Test.YtlchlhjjoddocaaC
import Derived.Test.YtlchlhjjoddocaaK
namespace Go.Proofs.Ytlchlhjjoddocaa
set_option linter.unusedVariables false
set_option linter.unusedSimpArgs false
open Go.RowKit Go.Maps
set_option maxHeartbeats 400000
theorem spec_RecOk (r : Rc) (w : World) : Calls Try.prog 52 #[.agg #[.int .i64 r.kind, .int .i64 r.seq, .int .i64 r.addr, .int .i64 r.val]] w fun e w' => e = .returned (.bool (recOk r)) ∧ Below w.heap.size w w' := by
  obtain ⟨k, s, a, v⟩ := r
  dsimp only
  have hB : Below w.heap.size w (w.alloc (.cells #[.int .i64 k, .int .i64 s, .int .i64 a, .int .i64 v] 40)) := (Below.refl _ _).alloc (Nat.le_refl _) _
  have hq : Hid (∀ x, x = (decide (1 ≤ k) && decide (k ≤ 2) && (decide (1 ≤ s) && decide (s ≤ 600)) && (decide (1 ≤ a) && decide (a ≤ 6)) && (decide (0 ≤ v) && decide (v ≤ 9))) → recOk ⟨k, s, a, v⟩ = x) := by
    intro x hx
    rw [hx]
    unfold recOk kindB addrB valB
    rw [Bool.eq_iff_iff]
    simp
    omega
  go_enter Try.func52, Try.ntmps52
  go_wp2_with (go_at_call 32; refine (spec_l6In _ _ _ _).mono ?_; rintro e w' ⟨rfl, rfl⟩)
  all_goals (go_ret; exact ⟨ret_bool (hq.out _ (by simp [*])).symm, hB⟩)
theorem spec_l2Page (p : Pg) (w : World) : Calls Try.prog 33 #[.agg #[.int .i64 p.state, .int .i64 p.rc.kind, .int .i64 p.rc.seq, .int .i64 p.rc.addr, .int .i64 p.rc.val]] w fun e w' => e = .returned (.bool (pageOk p)) ∧ Below w.heap.size w w' := by
  obtain ⟨st, r⟩ := p
  dsimp only
  have hB : Below w.heap.size w (w.alloc (.cells #[.int .i64 st, .int .i64 r.kind, .int .i64 r.seq, .int .i64 r.addr, .int .i64 r.val] 42)) := (Below.refl _ _).alloc (Nat.le_refl _) _
  by_cases h1 : st = 1
  · subst h1
    have hq : Hid (pageOk ⟨1, r⟩ = recOk r) := rfl
    go_enter Try.func33, Try.ntmps33
    go_wp2_with (go_at_call 52; refine (spec_RecOk r _).mono ?_; rintro e w1 ⟨rfl, hb⟩)
    go_ret
    exact ⟨ret_bool hq.out.symm, hB.trans (hb.mono (by simp))⟩
  clear hB
  obtain ⟨k, s, a, v⟩ := r
  dsimp only
  by_cases h0 : st = 0
  · subst h0
    have hq : Hid (pageOk ⟨0, ⟨k, s, a, v⟩⟩ = decide ((⟨k, s, a, v⟩ : Rc) = rc0)) := rfl
    go_enter Try.func33, Try.ntmps33
    go_wp2
    all_goals (go_ret; exact ⟨ret_bool (by rw [hq.out]; simp [rc0, *]), (Below.refl _ _).alloc (Nat.le_refl _) _⟩)
  by_cases h2 : st = 2
  · subst h2
    have hq : Hid (pageOk ⟨2, ⟨k, s, a, v⟩⟩ = decide ((⟨k, s, a, v⟩ : Rc) = rc0)) := rfl
    go_enter Try.func33, Try.ntmps33
    go_wp2
    all_goals (go_ret; exact ⟨ret_bool (by rw [hq.out]; simp [rc0, *]), (Below.refl _ _).alloc (Nat.le_refl _) _⟩)
  have hk : Hid (pageOk ⟨st, ⟨k, s, a, v⟩⟩ = false) := by unfold Hid pageOk; simp [h1, h2, h0]
  go_enter Try.func33, Try.ntmps33
  go_wp2
  go_ret
  exact ⟨ret_bool hk.out.symm, (Below.refl _ _).alloc (Nat.le_refl _) _⟩

/-- a row of marks: is the number among seen? -/
def Marks (w : World) (g : Nat) (seen : List Int) : Prop := ∀ j : Nat, j < 601 → w.cell? ⟨g, j, none⟩ = some (.bool (decide ((j : Int) ∈ seen))) ∧ w.frozen? ⟨g, j, none⟩ = false
theorem Marks.below {w w' : World} {g B : Nat} {seen : List Int} (h : Marks w g seen) (hb : Below B w w') (hg : g < B) : Marks w' g seen := fun j hj =>
  ⟨(hb.cell (p := ⟨g, j, none⟩) hg).trans (h j hj).1, (hb.frozen (p := ⟨g, j, none⟩) hg).trans (h j hj).2⟩
theorem Marks.put {w : World} {g n : Nat} {seen : List Int} (h : Marks w g seen) (hn : n < 601) : Marks (w.setCell ⟨g, n, none⟩ (.bool true)) g ((n : Int) :: seen) := fun j hj => by
  refine ⟨?_, (World.frozen?_setCell _ _ _ _).trans (h j hj).2⟩
  by_cases e : j = n
  · subst e
    rw [World.cell?_setCell_same w _ _ (h j hj).1]; simp
  · rw [World.cell?_setCell_other w _ _ _ (fun e' => e (by injection e' with _ e2 _; exact e2.symm)), (h j hj).1]
    simp [show ¬ (j : Int) = n by omega]
theorem Marks.same {w : World} {g n : Nat} {seen : List Int} (h : Marks w g seen) (hn : n < 601) (hs : ¬ (n : Int) ∈ seen) : Marks (w.setCell ⟨g, n, none⟩ (.bool false)) g seen := fun j hj => by
  refine ⟨?_, (World.frozen?_setCell _ _ _ _).trans (h j hj).2⟩
  by_cases e : j = n
  · subst e
    rw [World.cell?_setCell_same w _ _ (h j hj).1]; simp [hs]
  · rw [World.cell?_setCell_other w _ _ _ (fun e' => e (by injection e' with _ e2 _; exact e2.symm)), (h j hj).1]
end Go.Proofs.Ytlchlhjjoddocaa
