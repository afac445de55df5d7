/- Walk: FnExactFlashNew. -/
import Derived.Test.YtlchlhjjoddocaaS4
import Derived.Test.YtlchlhjjoddocaaL1
import Derived.Test.YtlchlhjjoddocaaL4
namespace Go.Proofs.Ytlchlhjjoddocaa
set_option linter.unusedVariables false
set_option linter.unusedSimpArgs false
open Go.RowKit Go.Maps
set_option maxHeartbeats 400000
theorem flashNew_len : flashNew.length = 4 := rfl
theorem flashNew_pages : ∀ b ∈ flashNew, b.pages.length < 1000000000000 := by
  intro b hb
  rw [flashNew, List.mem_replicate] at hb
  rw [hb.2]; decide
theorem flashNew_end : endFl 1 flashNew = 85 := by decide
theorem OFl.far {w w' : World} {lo hi lo' hi' : Nat} {A : Option Addr} {f : List Bk} (h : OFl w lo hi A f) (ha : Agr (fun b => lo' ≤ b ∧ b < hi') w w') (hd : hi ≤ lo' ∨ hi' ≤ lo) : OFl w' lo hi A f :=
  h.agr ha fun b h1 h2 h3 => by omega
end Go.Proofs.Ytlchlhjjoddocaa
