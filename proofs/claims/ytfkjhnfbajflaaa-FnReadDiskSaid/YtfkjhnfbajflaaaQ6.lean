/- Walks: FnWipe. Walks: FnWipeAgain. -/
import Derived.Test.YtfkjhnfbajflaaaG19
import Derived.Test.YtfkjhnfbajflaaaL1
import Derived.Test.YtfkjhnfbajflaaaC2
import Derived.Test.YtfkjhnfbajflaaaS
import Derived.Test.YtfkjhnfbajflaaaS4
namespace Go.Proofs.Ytfkjhnfbajflaaa
set_option linter.unusedVariables false
set_option linter.unusedSimpArgs false
open Go.RowKit Go.Maps
set_option maxHeartbeats 400000
theorem small_len {f : List Bk} (h : flSmall f) : f.length < 1000000000000 := by have := h.1; omega
theorem small_pages {f : List Bk} (h : flSmall f) : ∀ b ∈ f, b.pages.length < 1000000000000 := fun b hb => by have := (h.2.2 b hb).1; omega
theorem wiped_len (f : List Bk) (n : Int) (t : Bool) (h : f.length ≤ 4) : (flashWipe f n t).1.length ≤ 4 := by
  unfold flashWipe
  split
  · simp
  · split
    · exact h
    · show (wipe f _ t).length ≤ 4; rw [wipe_len]; exact h
theorem wiped_pages (f : List Bk) (n : Int) (t : Bool) (h : ∀ b ∈ f, b.pages.length ≤ 4) : ∀ b ∈ (flashWipe f n t).1, b.pages.length ≤ 4 := by
  unfold flashWipe
  split
  · intro b hb; simp at hb
  · split
    · exact h
    · intro b hb
      unfold wipe at hb
      rcases mem_set hb with hb | rfl
      · exact h b hb
      · simp
end Go.Proofs.Ytfkjhnfbajflaaa
namespace Go.Proofs.Ytfkjhnfbajflaaa
set_option linter.unusedVariables false
set_option linter.unusedSimpArgs false
open Go.RowKit Go.Maps
set_option maxHeartbeats 400000
theorem flashWipe_eq {f : List Bk} {i : Nat} (h : flashOk f = true) (hi : i < 4) (t : Bool) : flashWipe f i t = if (f.getD i zbk).worn = 200 then (f, false) else (wipe f i t, true) := by
  have hb : blockB (i : Int) = true := by unfold blockB; simp; omega
  unfold flashWipe
  rw [if_neg (by rw [h, hb]; simp), Int.toNat_natCast]
theorem flashWipe_true {f : List Bk} {n : Int} {t : Bool} (h : (flashWipe f n t).2 = true) : flashOk f = true ∧ ∃ i : Nat, n = i ∧ i < 4 ∧ (f.getD i zbk).worn ≠ 200 ∧ flashWipe f n t = (wipe f i t, true) := by
  unfold flashWipe at h ⊢
  split at h
  · cases h
  · rename_i h1
    have h2 : flashOk f = true := by
      rcases Bool.eq_false_or_eq_true (flashOk f) with h | h
      · exact h
      · exact absurd (.inl h) h1
    have h3 : blockB n = true := by
      rcases Bool.eq_false_or_eq_true (blockB n) with h | h
      · exact h
      · exact absurd (.inr h) h1
    rw [if_neg h1]
    have hn : 0 ≤ n ∧ n < 4 := by unfold blockB at h3; simpa using h3
    split at h
    · cases h
    · rename_i h4
      refine ⟨h2, n.toNat, by omega, by omega, h4, ?_⟩
      rw [if_neg h4]
theorem wiped_b {f : List Bk} {i : Nat} {b : Bk} (h : f[i]? = some b) (t : Bool) : (wipe f i t)[i]? = some ⟨List.replicate 4 (if t then ⟨2, rc0⟩ else pg0), b.worn + 1⟩ := by
  rw [wipe_at (List.getElem?_eq_some_iff.1 h).1 t, List.getD_eq_getElem?_getD, h]; rfl
theorem getD_of {f : List Bk} {i : Nat} {b : Bk} (h : f[i]? = some b) : f.getD i zbk = b := by rw [List.getD_eq_getElem?_getD, h]; rfl
theorem wiped_small {f : List Bk} (h : flSmall f) (h4 : f.length = 4) (i : Nat) (t : Bool) : (∀ b ∈ wipe f i t, b.pages.length < 1000000000000) := fun b hb => by
  unfold wipe at hb
  rcases mem_set hb with hb | rfl
  · have := (h.2.2 b hb).1; omega
  · simp
/-- the header of a block that was wiped, and its pages -/
theorem wiped_cells {w : World} {lo hi : Nat} {A : Option Addr} {f : List Bk} {i : Nat} {t : Bool} {b : Bk} (hO : OFl w lo hi A (wipe f i t)) (h : f[i]? = some b) :
    ∃ xb xo zb zo cz, A = some ⟨xb, xo, none⟩ ∧ w.cell? ⟨xb, xo + i * 2, none⟩ = some (.slice (some ⟨zb, zo, none⟩) 4 cz) ∧ w.cell? ⟨xb, xo + i * 2 + 1, none⟩ = some (.int .i64 (b.worn + 1)) ∧ Row w (some ⟨zb, zo, none⟩) (pgs (List.replicate 4 (if t then ⟨2, rc0⟩ else pg0))) := by
  obtain ⟨ks, hBk, _⟩ := hO
  have hl := (List.getElem?_eq_some_iff.1 (wiped_b h t)).1
  obtain ⟨xb, xo, rfl⟩ := hBk.addr (by intro e; rw [e] at hl; simp at hl)
  obtain ⟨⟨Z, cz⟩, _, c0, c1, _, _, hRow, _⟩ := hBk.at_ (wiped_b h t)
  dsimp only at c0 hRow
  rw [show (List.replicate 4 (if t = true then (⟨2, rc0⟩ : Pg) else pg0)).length = 4 from by simp] at c0
  obtain ⟨zb, zo, rfl⟩ := hRow.addr (pgs_ne (by cases t <;> decide))
  exact ⟨xb, xo, zb, zo, cz, rfl, c0, c1, hRow⟩
end Go.Proofs.Ytfkjhnfbajflaaa
