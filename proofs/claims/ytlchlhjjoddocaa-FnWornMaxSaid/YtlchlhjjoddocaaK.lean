/- A closed fact: make([]bool, 601). -/
import Derived.Test.YtlchlhjjoddocaaProg
import Derived.WalkKit
import Derived.KernelRfl
namespace Go.Proofs.Ytlchlhjjoddocaa
set_option linter.unusedVariables false
set_option linter.unusedSimpArgs false
open Go.RowKit
theorem run_marks : ∃ cs : Array Value, (∀ w : World, (Instr.makeSlice 56 (.int .i64 601) (.int .i64 601)).run Try.prog w = .ok (.slice (some ⟨w.heap.size, 0, none⟩) 601 601) (w.alloc (.cells cs 4))) ∧ ∀ j : Nat, j < 601 → cs[j]? = some (.bool false) := by
  refine ⟨Array.replicate 601 (.bool false), fun w => ?_, fun j hj => by simp [hj]⟩
  kernel_rfl
end Go.Proofs.Ytlchlhjjoddocaa
