/- Walks: marks laid into a flash, and held. -/
import Derived.Test.YtfkjhnfbajflaaaC2
namespace Go.Proofs.Ytfkjhnfbajflaaa
set_option linter.unusedVariables false
set_option linter.unusedSimpArgs false
open Go.RowKit Go.Maps
set_option maxHeartbeats 400000
def markPs : Int → List Pg → List Pg
  | _, [] => []
  | k, _ :: ps => ⟨k, ⟨k + 1, k + 1 + 1, k + 1 + 1 + 1, k + 1 + 1 + 1 + 1⟩⟩ :: markPs (k + 1 + 1 + 1 + 1 + 1) ps
def endPs : Int → List Pg → Int
  | k, [] => k
  | k, _ :: ps => endPs (k + 1 + 1 + 1 + 1 + 1) ps
def markFl : Int → List Bk → List Bk
  | _, [] => []
  | k, b :: f => ⟨markPs k b.pages, endPs k b.pages⟩ :: markFl (endPs k b.pages + 1) f
def endFl : Int → List Bk → Int
  | k, [] => k
  | k, b :: f => endFl (endPs k b.pages + 1) f
theorem endPs_eq : ∀ (ps : List Pg) (k : Int), endPs k ps = k + 5 * ps.length
  | [], k => by simp [endPs]
  | _ :: ps, k => by rw [endPs, endPs_eq ps]; simp only [List.length_cons]; omega
theorem markPs_len : ∀ (ps : List Pg) (k : Int), (markPs k ps).length = ps.length
  | [], _ => rfl
  | _ :: ps, k => by simp [markPs, markPs_len ps]
theorem markFl_len : ∀ (f : List Bk) (k : Int), (markFl k f).length = f.length
  | [], _ => rfl
  | _ :: f, k => by simp [markFl, markFl_len f]
theorem markPs_at : ∀ (ps : List Pg) (k : Int) (j : Nat) (p : Pg), ps[j]? = some p → (markPs k ps)[j]? = some ⟨k + 5 * j, ⟨k + 5 * j + 1, k + 5 * j + 1 + 1, k + 5 * j + 1 + 1 + 1, k + 5 * j + 1 + 1 + 1 + 1⟩⟩
  | [], _, _, _, h => by simp at h
  | q :: ps, k, 0, p, h => by simp [markPs]
  | q :: ps, k, j + 1, p, h => by
    rw [markPs, List.getElem?_cons_succ, markPs_at ps _ j p (by simpa using h), show k + 1 + 1 + 1 + 1 + 1 + 5 * (j : Int) = k + 5 * ((j + 1 : Nat) : Int) by omega]
/-- the marks behind j pages, the old pages from there on -/
theorem mark_step (ps : List Pg) (k : Int) (j : Nat) (h : j < ps.length) : ((markPs k ps).take j ++ ps.drop j).set j ⟨k + 5 * j, ⟨k + 5 * j + 1, k + 5 * j + 1 + 1, k + 5 * j + 1 + 1 + 1, k + 5 * j + 1 + 1 + 1 + 1⟩⟩ = (markPs k ps).take (j + 1) ++ ps.drop (j + 1) := by
  have hl := markPs_len ps k
  obtain ⟨p, hp⟩ := get_some h
  rw [List.set_append_right _ _ (by simp; omega), show j - ((markPs k ps).take j).length = 0 by simp; omega, List.drop_eq_getElem_cons h, List.set_cons_zero, List.take_add_one, markPs_at ps k j p hp]
  simp
theorem endFl_le (P : Int) : ∀ (f : List Bk) (k : Int), (∀ b ∈ f, (b.pages.length : Int) ≤ P) → endFl k f ≤ k + (5 * P + 1) * f.length
  | [], k, _ => by simp [endFl]
  | b :: f, k, h => by
    have h1 := endPs_eq b.pages k
    have h2 := endFl_le P f (endPs k b.pages + 1) (fun c hc => h c (List.mem_cons_of_mem _ hc))
    have h3 := h b (List.mem_cons_self ..)
    rw [endFl, List.length_cons]
    have e : (5 * P + 1) * ((f.length + 1 : Nat) : Int) = (5 * P + 1) * f.length + (5 * P + 1) := by rw [Int.natCast_add, Int.mul_add]; simp
    rw [e]; omega
theorem endFl_ge : ∀ (f : List Bk) (k : Int), k ≤ endFl k f
  | [], k => Int.le_refl _
  | b :: f, k => by
    have h1 := endPs_eq b.pages k
    have h2 := endFl_ge f (endPs k b.pages + 1)
    rw [endFl]; omega
/-- where the marks of block j begin -/
def atFl : Int → List Bk → Nat → Int
  | k, _, 0 => k
  | k, [], _ => k
  | k, b :: f, j + 1 => atFl (endPs k b.pages + 1) f j
theorem atFl_succ : ∀ (f : List Bk) (k : Int) (j : Nat) (b : Bk), f[j]? = some b → atFl k f (j + 1) = endPs (atFl k f j) b.pages + 1
  | [], _, _, _, h => by simp at h
  | a :: f, k, 0, b, h => by simp at h; subst h; simp [atFl]
  | a :: f, k, j + 1, b, h => by
    have ih := atFl_succ f (endPs k a.pages + 1) j b (by simpa using h)
    simpa [atFl] using ih
theorem atFl_end : ∀ (f : List Bk) (k : Int) (j : Nat), endFl (atFl k f j) (f.drop j) = endFl k f
  | [], k, j => by cases j <;> simp [atFl, endFl]
  | a :: f, k, 0 => by simp [atFl]
  | a :: f, k, j + 1 => by rw [atFl, List.drop_succ_cons, atFl_end f]; rfl
theorem atFl_ge : ∀ (f : List Bk) (k : Int) (j : Nat), k ≤ atFl k f j
  | [], k, j => by cases j <;> simp [atFl]
  | a :: f, k, 0 => by simp [atFl]
  | a :: f, k, j + 1 => by
    have h1 := endPs_eq a.pages k
    have h2 := atFl_ge f (endPs k a.pages + 1) j
    rw [atFl]; omega
theorem markFl_at : ∀ (f : List Bk) (k : Int) (j : Nat) (b : Bk), f[j]? = some b → (markFl k f)[j]? = some ⟨markPs (atFl k f j) b.pages, endPs (atFl k f j) b.pages⟩
  | [], _, _, _, h => by simp at h
  | a :: f, k, 0, b, h => by simp at h; subst h; simp [markFl, atFl]
  | a :: f, k, j + 1, b, h => by
    rw [markFl, List.getElem?_cons_succ, markFl_at f _ j b (by simpa using h)]; rfl
theorem markFl_step (f : List Bk) (k : Int) (j : Nat) (b : Bk) (h : f[j]? = some b) : ((markFl k f).take j ++ f.drop j).set j ⟨markPs (atFl k f j) b.pages, endPs (atFl k f j) b.pages⟩ = (markFl k f).take (j + 1) ++ f.drop (j + 1) := by
  have hl := markFl_len f k
  have hlt := (List.getElem?_eq_some_iff.1 h).1
  rw [List.set_append_right _ _ (by simp; omega), show j - ((markFl k f).take j).length = 0 by simp; omega, List.drop_eq_getElem_cons hlt, List.set_cons_zero, List.take_add_one, markFl_at f k j b h]
  simp
end Go.Proofs.Ytfkjhnfbajflaaa
