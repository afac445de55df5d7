/- Walks: a drawn flash, perhaps with a page changed. -/
import Derived.Test.YtfkjhnfbajflaaaG19
import Derived.Deep.RegionHeld3
namespace Go.Proofs.Ytfkjhnfbajflaaa
set_option linter.unusedVariables false
set_option linter.unusedSimpArgs false
open Go.RowKit Go.Maps
set_option maxHeartbeats 400000
theorem rc0_small : rcSmall rc0 := ⟨⟨by decide, by decide⟩, ⟨by decide, by decide⟩, ⟨by decide, by decide⟩, ⟨by decide, by decide⟩⟩
theorem block0 {w : World} {g o : Nat} {f : List Bk} {hs : List (Option Addr × Nat)} (h : Bks w (some ⟨g, o, none⟩) f hs) (hl : f.length = 4) :
    ∃ b x, f[0]? = some b ∧ hs[0]? = some x ∧ w.cell? ⟨g, o, none⟩ = some (.slice x.1 b.pages.length x.2) := by
  obtain ⟨b, hb⟩ := get_some (l := f) (k := 0) (by omega)
  obtain ⟨x, hx, c0, _⟩ := h.at_ hb
  rw [Nat.zero_mul, Nat.add_zero] at c0
  exact ⟨b, x, hb, hx, c0⟩
end Go.Proofs.Ytfkjhnfbajflaaa
