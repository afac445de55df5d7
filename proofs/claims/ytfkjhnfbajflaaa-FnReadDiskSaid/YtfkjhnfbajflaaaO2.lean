/- A statement's own bytes, read out of its arguments. -/
import Derived.Test.YtfkjhnfbajflaaaProg
import Derived.Test.YtfkjhnfbajflaaaG19
import Derived.Deep.Slices
import Derived.ChangeSlices
import Derived.ChangeArms
import Derived.ProofKit
namespace Go.Proofs.Ytfkjhnfbajflaaa
set_option linter.unusedVariables false
set_option linter.unusedSimpArgs false
open Go.RowKit Go.ChangeShapes Go.WideShapes Go.Deep
set_option maxRecDepth 100000
section
variable {H : Type} {enc : TypeId × Value → H} {w : World} {base fuel : Nat} {spare : Nat → Bool} {held : Bool}
theorem plain_addr' {w : World} {a : Addr} {u : Value} (h : w.cell? a = some u) : ∃ b o, a = ⟨b, o, none⟩ := by
  obtain ⟨b, o, s⟩ := a
  cases s with
  | none => exact ⟨b, o, rfl⟩
  | some s =>
    have : w.cell? ⟨b, o, some s⟩ = none := by
      unfold World.cell?
      split
      · exact if_pos rfl
      · rfl
    rw [this] at h; cases h
theorem cellsOf_u8 : Try.prog.cellsOf 5 = 1 := by kernel_rfl
theorem bytes_of {cs : List Value} {x : DataW H × List MemPlace} (h : DataW.trod enc Try.prog w base spare held fuel 22 cs = some x) : ∃ A c bs, cs = [.slice A (List.length bs) c] ∧ Code w A bs c := by
  rcases open_ints Try.underlying22 Try.underlying5 cellsOf_u8 h with ⟨rfl, _⟩ | ⟨a, len, cap, zs, rfl, _, hlc, hcm, hzl, _, hcell, hwf⟩
  · exact ⟨none, 0, [], rfl, ⟨Nat.le_refl _, by omega, by simp, fun h => absurd rfl h⟩⟩
  · have hlz : len ≤ zs.length := by rw [hzl]; split <;> omega
    have hz : ∀ i, i < zs.length → zs.getD i 0 ∈ zs := fun i hi => by
      rw [List.getD_eq_getElem?_getD, List.getElem?_eq_getElem hi]
      exact List.getElem_mem hi
    have hr : ∀ n ∈ zs, 0 ≤ n ∧ n < 256 := fun n hn => by
      have := hwf n hn
      have h1 : IntKind.u8.min = 0 := rfl
      have h2 : IntKind.u8.max = 255 := rfl
      change (decide (IntKind.u8.min ≤ n) && decide (n ≤ IntKind.u8.max)) = true at this
      rw [h1, h2] at this
      simp at this
      omega
    refine ⟨some a, cap, (List.range len).map fun i => (zs.getD i 0).toNat, by simp, ⟨by simpa using hlc, by unfold maxLen at hcm; omega, fun b hb => ?_, fun hne => ?_⟩⟩
    · obtain ⟨i, hi, rfl⟩ := List.mem_map.1 hb
      have := hr _ (hz i (by have := List.mem_range.1 hi; omega))
      omega
    · have hn : 0 < len := by
        rcases Nat.eq_zero_or_pos len with h0 | h0
        · rw [h0] at hne; simp [bytes] at hne
        · exact h0
      have h0 := hcell 0 (by omega)
      obtain ⟨b, o, rfl⟩ := plain_addr' (a := a) (by simpa [Addr.add] using h0)
      refine ⟨b, o, rfl, fun j u hj => ?_⟩
      have hjl : j < len := by
        have := (List.getElem?_eq_some_iff.1 hj).1
        simpa [bytes] using this
      have hc := hcell j (by omega)
      rw [addr_add] at hc
      rw [hc]
      have hb := hr _ (hz j (by omega))
      rw [bytes, List.getElem?_map, List.getElem?_map, List.getElem?_range hjl] at hj
      simp only [Option.map_some, Option.some.injEq] at hj
      rw [← hj]
      have : (((zs.getD j 0).toNat : Nat) : Int) = zs.getD j 0 := by omega
      rw [this]
end
end Go.Proofs.Ytfkjhnfbajflaaa
