/- Walks: the small functions. -/
import Derived.Test.YtfkjhnfbajflaaaProg
import Derived.Test.YtfkjhnfbajflaaaW
import Derived.BigQuiet
import Derived.Deep.QuietTactic
import Derived.Deep.LoopGhost
import Derived.WideLaws
import Derived.LaidEql
import Derived.RegionTactic
import Derived.ChangeAlike
import Derived.Outline
namespace Go.Proofs.Ytfkjhnfbajflaaa
set_option linter.unusedVariables false
set_option linter.unusedSimpArgs false
open Go.RowKit
set_option maxHeartbeats 400000
theorem impl_addrOk (a : Int) (w : World) : Calls Try.prog 56 #[.int .i64 a] w fun e w' => e = .returned (.bool (addrB a)) ∧ w = w' := by
  go_enter Try.func56, Try.ntmps56
  go_wp2
  all_goals (go_ret; exact ⟨ret_bool (by unfold addrB; simp [*] <;> omega), rfl⟩)
theorem impl_valOk (a : Int) (w : World) : Calls Try.prog 58 #[.int .i64 a] w fun e w' => e = .returned (.bool (valB a)) ∧ w = w' := by
  go_enter Try.func58, Try.ntmps58
  go_wp2
  all_goals (go_ret; exact ⟨ret_bool (by unfold valB; simp [*] <;> omega), rfl⟩)
theorem impl_blockOk (a : Int) (w : World) : Calls Try.prog 41 #[.int .i64 a] w fun e w' => e = .returned (.bool (blockB a)) ∧ w = w' := by
  go_enter Try.func41, Try.ntmps41
  go_wp2
  all_goals (go_ret; exact ⟨ret_bool (by unfold blockB; simp [*] <;> omega), rfl⟩)
theorem spec_l6In (n lo hi : Int) (w : World) : Calls Try.prog 39 #[.int .i64 n, .int .i64 lo, .int .i64 hi] w fun e w' => e = .returned (.bool (decide (lo ≤ n) && decide (n ≤ hi))) ∧ w = w' := by
  go_enter Try.func39, Try.ntmps39
  go_wp2
  all_goals (go_ret; exact ⟨ret_bool (by simp [*] <;> omega), rfl⟩)

/-- what entryOf answers: nil just where the kind is unknown -/
def EntryPost (k s a v : Int) (w : World) (e : Ending) (w' : World) : Prop :=
  ((kindB k = false ∧ e = .returned .nilIface) ∨ (kindB k = true ∧ ∃ t, (t = 106 ∨ t = 107) ∧ e = .returned (.iface t (.agg #[.int .i64 k, .int .i64 s, .int .i64 a, .int .i64 v])))) ∧ Below w.heap.size w w'
theorem impl_entryOf (k s a v : Int) (w : World) : Calls Try.prog 68 #[.agg #[.int .i64 k, .int .i64 s, .int .i64 a, .int .i64 v]] w (EntryPost k s a v w) := by
  have hB : Below w.heap.size w (w.alloc (.cells #[.int .i64 k, .int .i64 s, .int .i64 a, .int .i64 v] 35)) := (Below.refl _ _).alloc (Nat.le_refl _) _
  by_cases h1 : k = 1
  · subst h1
    go_enter Try.func68, Try.ntmps68
    go_wp2
    go_ret
    exact ⟨.inr ⟨rfl, _, .inl rfl, rfl⟩, hB⟩
  by_cases h2 : k = 2
  · subst h2
    go_enter Try.func68, Try.ntmps68
    go_wp2
    go_ret
    exact ⟨.inr ⟨rfl, _, .inr rfl, rfl⟩, hB⟩
  have hk : Hid (kindB k = false) := by unfold Hid kindB; simp [h1, h2]
  go_enter Try.func68, Try.ntmps68
  go_wp2
  go_ret
  exact ⟨.inl ⟨hk.out, rfl⟩, hB⟩

theorem impl_RecOk (r : Rc) (w : World) : Calls Try.prog 50 #[.agg #[.int .i64 r.kind, .int .i64 r.seq, .int .i64 r.addr, .int .i64 r.val]] w fun e w' => e = .returned (.bool (recOk r)) ∧ Below w.heap.size w w' := by
  obtain ⟨k, s, a, v⟩ := r
  dsimp only
  go_enter Try.func50, Try.ntmps50
  go_wp2_with fail
  refine (impl_entryOf k s a v _).mono ?_
  rintro e w1 ⟨⟨hk, rfl⟩ | ⟨hk, t, ht, rfl⟩, hb⟩
  · go_wp2
    go_ret
    exact ⟨ret_bool (by simp [recOk, hk]), ((Below.refl _ _).alloc (Nat.le_refl _) _).trans (hb.mono (by simp))⟩
  · have hB : Below w.heap.size w w1 := ((Below.refl _ _).alloc (Nat.le_refl _) _).trans (hb.mono (by simp))
    have c1 : w1.cell? ⟨w.heap.size, 1, none⟩ = some (.int .i64 s) := (hb.cell (by simp)).trans (by simp)
    have c2 : w1.cell? ⟨w.heap.size, 2, none⟩ = some (.int .i64 a) := (hb.cell (by simp)).trans (by simp)
    have c3 : w1.cell? ⟨w.heap.size, 3, none⟩ = some (.int .i64 v) := (hb.cell (by simp)).trans (by simp)
    clear hb
    have hq : recOk ⟨k, s, a, v⟩ = (decide (1 ≤ s) && (decide (s ≤ 600) && (addrB a && valB v))) := by simp [recOk, hk]
    have Hq := Lib.hid hq
    clear hk ht hq
    go_wp2_with (first | (go_at_call 56; refine (impl_addrOk _ _).mono ?_; rintro e w' ⟨rfl, rfl⟩) | (go_at_call 58; refine (impl_valOk _ _).mono ?_; rintro e w' ⟨rfl, rfl⟩))
    all_goals (go_ret; refine ⟨ret_bool ?_, hB⟩; rw [Hq.out]; simp [*] <;> omega)
end Go.Proofs.Ytfkjhnfbajflaaa
