/- Walk: FnExactFlashNew. -/
import Derived.Test.YtlkoadbanfjlaaaS4
import Derived.Test.YtlkoadbanfjlaaaL1
import Derived.Test.YtlkoadbanfjlaaaL4
namespace Go.Proofs.Ytlkoadbanfjlaaa
set_option linter.unusedVariables false
set_option linter.unusedSimpArgs false
open Go.RowKit Go.Maps
set_option maxHeartbeats 400000
theorem flashNew_len : flashNew.length = 4 := rfl
theorem flashNew_pages : ∀ b ∈ flashNew, b.pages.length < 1000000000000 := by
  intro b hb
  rw [flashNew, List.mem_replicate] at hb
  rw [hb.2]; decide
theorem flashNew_end : endFl 1 flashNew = 85 := by decide
theorem OFl.far {w w' : World} {lo hi lo' hi' : Nat} {A : Option Addr} {f : List Bk} (h : OFl w lo hi A f) (ha : Agr (fun b => lo' ≤ b ∧ b < hi') w w') (hd : hi ≤ lo' ∨ hi' ≤ lo) : OFl w' lo hi A f :=
  h.agr ha fun b h1 h2 h3 => by omega
theorem law_FnExactFlashNew (w : World) : Calls Try.prog 3 #[] w fun e w' => e = .returned (.bool true) ∧ Below w.heap.size w w' := by
  go_enter Try.func3, Try.ntmps3
  go_wp2_with fail
  refine (spec_FlashNew _).mono ?_
  rintro e w1 ⟨a, ca, rfl, _, hOa, hb1⟩
  go_wp2_with fail
  refine (impl_FlashNew _).mono ?_
  rintro e w2 ⟨g, rfl, hOg, hb2⟩
  have hOa2 := hOa.below hb2 (Nat.le_refl _)
  have s1 := hb1.size
  have s2 := hb2.size
  go_wp2_with fail
  refine (laws_eqBlockS (some ⟨g, 0, none⟩) (some ⟨a, 0, none⟩) 4 ca flashNew flashNew _ (by decide) (by decide) flashNew_pages flashNew_pages hOg.fl hOa2.fl).mono ?_
  rintro e w3 ⟨rfl, hb3⟩
  rw [show decide (flashNew = flashNew) = true from by simp]
  have hOa3 := hOa2.below hb3 (Nat.le_refl _)
  have hOg3 := hOg.below hb3 (Nat.le_refl _)
  have s3 := hb3.size
  go_wp2_with fail
  refine (laws_markBlockS (some ⟨g, 0, none⟩) 4 flashNew 1 w1.heap.size w2.heap.size _ (by decide) flashNew_pages (by omega) (by rw [flashNew_end]; omega) hOg3).mono ?_
  rintro e w4 ⟨rfl, hOg4, hA4⟩
  have hOa4 := hOa3.far hA4 (.inl (Nat.le_refl _))
  have s4 := hA4.size
  rw [flashNew_end]
  go_wp2_with fail
  refine (laws_heldBlockS (some ⟨g, 0, none⟩) 4 4 flashNew 1 _ rfl (by decide) flashNew_pages (by omega) (by rw [flashNew_end]; omega) hOg4.fl).mono ?_
  rintro e w5 ⟨rfl, rfl⟩
  rw [flashNew_end]
  go_wp2_with fail
  refine (impl_FlashNew _).mono ?_
  rintro e w6 ⟨h, rfl, hOh, hb6⟩
  have hOa6 := hOa4.below hb6 (Nat.le_refl _)
  have hOg6 := hOg4.below hb6 (Nat.le_refl _)
  have s6 := hb6.size
  go_wp2_with fail
  refine (laws_eqBlockS (some ⟨h, 0, none⟩) (some ⟨a, 0, none⟩) 4 ca flashNew flashNew _ (by decide) (by decide) flashNew_pages flashNew_pages hOh.fl hOa6.fl).mono ?_
  rintro e w7 ⟨rfl, hb7⟩
  rw [show decide (flashNew = flashNew) = true from by simp]
  have hOg7 := hOg6.below hb7 (Nat.le_refl _)
  go_wp2_with fail
  refine (laws_heldBlockS (some ⟨g, 0, none⟩) 4 4 flashNew 1 _ rfl (by decide) flashNew_pages (by omega) (by rw [flashNew_end]; omega) hOg7.fl).mono ?_
  rintro e w8 ⟨rfl, rfl⟩
  rw [flashNew_end]
  go_wp2
  go_ret
  refine ⟨rfl, ?_⟩
  exact ((((hb1.trans (hb2.mono s1)).trans (hb3.mono (by omega))).trans (hA4.below (by omega) (fun i hi => by omega))).trans (hb6.mono (by omega))).trans (hb7.mono (by omega))
end Go.Proofs.Ytlkoadbanfjlaaa
