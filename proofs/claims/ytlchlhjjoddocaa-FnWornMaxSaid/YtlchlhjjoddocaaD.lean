/- Plain functions: what the program's functions answer. -/
import Derived.Test.YtlchlhjjoddocaaW
namespace Go.Proofs.Ytlchlhjjoddocaa
set_option linter.unusedVariables false
set_option linter.unusedSimpArgs false
def addrB (a : Int) : Bool := decide (1 ≤ a) && decide (a ≤ 6)
def valB (a : Int) : Bool := decide (0 ≤ a) && decide (a ≤ 9)
def kindB (k : Int) : Bool := decide (k = 1) || decide (k = 2)
def recOk (r : Rc) : Bool := kindB r.kind && (decide (1 ≤ r.seq) && (decide (r.seq ≤ 600) && (addrB r.addr && valB r.val)))
def pageOk (p : Pg) : Bool := if p.state = 1 then recOk p.rc else if p.state = 0 ∨ p.state = 2 then decide (p.rc = rc0) else false
def blockB (b : Int) : Bool := decide (0 ≤ b) && decide (b < 4)
def shapeGo : Bool → List Pg → Bool
  | _, [] => true
  | free, p :: ps => if (free && (p.state != 0)) = true then false else shapeGo (p.state == 0) ps
def blockShape (b : Bk) : Bool := decide (b.pages.length = 4) && (decide (0 ≤ b.worn) && (decide (b.worn ≤ 200) && shapeGo false b.pages))
/-- the pages of a block, the numbers met so far; then what follows -/
def pagesGo : List Int → (List Int → Bool) → List Pg → Bool
  | seen, k, [] => k seen
  | seen, k, p :: ps => if pageOk p = false then false else if p.state ≠ 1 then pagesGo seen k ps else if p.rc.seq ∈ seen then false else pagesGo (p.rc.seq :: seen) k ps
def blocksGo : List Int → List Bk → Bool
  | _, [] => true
  | seen, b :: bs => if blockShape b = false then false else pagesGo seen (fun s => blocksGo s bs) b.pages
def flashOk (f : List Bk) : Bool := decide (f.length = 4) && blocksGo [] f
theorem pagesGo_true {k : List Int → Bool} : ∀ {ps : List Pg} {seen : List Int}, pagesGo seen k ps = true → (∃ s, k s = true) ∧ ∀ p ∈ ps, pageOk p = true
  | [], seen, h => ⟨⟨seen, h⟩, by simp⟩
  | p :: ps, seen, h => by
    unfold pagesGo at h
    by_cases h1 : pageOk p = false
    · simp [h1] at h
    · rw [if_neg h1] at h
      have h1' : pageOk p = true := by simpa using h1
      have key : ∀ s, pagesGo s k ps = true → (∃ s, k s = true) ∧ ∀ q ∈ p :: ps, pageOk q = true := fun s hs => by
        obtain ⟨a, b⟩ := pagesGo_true hs
        exact ⟨a, by intro q hq; rcases List.mem_cons.1 hq with rfl | hq; exact h1'; exact b q hq⟩
      by_cases h2 : p.state ≠ 1
      · rw [if_pos h2] at h; exact key _ h
      · rw [if_neg h2] at h
        by_cases h3 : p.rc.seq ∈ seen
        · simp [h3] at h
        · rw [if_neg h3] at h; exact key _ h
theorem blocksGo_true : ∀ {f : List Bk} {seen : List Int}, blocksGo seen f = true → ∀ b ∈ f, blockShape b = true ∧ ∀ p ∈ b.pages, pageOk p = true
  | [], _, _ => by simp
  | b :: f, seen, h => by
    unfold blocksGo at h
    by_cases h1 : blockShape b = false
    · simp [h1] at h
    · rw [if_neg h1] at h
      obtain ⟨⟨s, hs⟩, hp⟩ := pagesGo_true h
      have ih := blocksGo_true hs
      intro c hc
      rcases List.mem_cons.1 hc with rfl | hc
      · exact ⟨by simpa using h1, hp⟩
      · exact ih c hc
theorem flashOk_len {f : List Bk} (h : flashOk f = true) : f.length = 4 := by unfold flashOk at h; simp at h; exact h.1
theorem flashOk_shape {f : List Bk} (h : flashOk f = true) : ∀ b ∈ f, b.pages.length = 4 ∧ 0 ≤ b.worn ∧ b.worn ≤ 200 := by
  unfold flashOk at h
  simp at h
  intro b hb
  have := (blocksGo_true h.2 b hb).1
  unfold blockShape at this
  simp at this
  exact ⟨this.1, this.2.1, this.2.2.1⟩
/-- the reference's way through the pages: was the one before clean? -/
def spagesGo : List Int → Bool → (List Int → Bool) → List Pg → Bool
  | seen, _, k, [] => k seen
  | seen, pc, k, p :: ps => if pageOk p = false ∨ (pc = true ∧ p.state ≠ 0) ∨ (p.state = 1 ∧ p.rc.seq ∈ seen) then false else spagesGo (if p.state = 1 then p.rc.seq :: seen else seen) (p.state == 0) k ps
def sblocksGo : List Int → List Bk → Bool
  | _, [] => true
  | seen, b :: bs => if b.pages.length ≠ 4 ∨ b.worn < 0 ∨ 200 < b.worn then false else spagesGo seen false (fun s => sblocksGo s bs) b.pages
theorem spagesGo_step {seen : List Int} {pc : Bool} {k : List Int → Bool} {p : Pg} {ps : List Pg} (h1 : pageOk p = true) (h2 : pc = true → p.state = 0) (h3 : p.state ≠ 1) : spagesGo seen pc k (p :: ps) = spagesGo seen (p.state == 0) k ps := by
  rw [spagesGo, if_neg (fun h => h.elim (fun h => absurd h (by simp [h1])) (fun h => h.elim (fun h => h.2 (h2 h.1)) (fun h => h3 h.1))), if_neg h3]
theorem spagesGo_put {seen : List Int} {pc : Bool} {k : List Int → Bool} {p : Pg} {ps : List Pg} (h1 : pageOk p = true) (h2 : pc = true → p.state = 0) (h3 : p.state = 1) (h4 : ¬ p.rc.seq ∈ seen) : spagesGo seen pc k (p :: ps) = spagesGo (p.rc.seq :: seen) (p.state == 0) k ps := by
  rw [spagesGo, if_neg (fun h => h.elim (fun h => absurd h (by simp [h1])) (fun h => h.elim (fun h => h.2 (h2 h.1)) (fun h => h4 h.2))), if_pos h3]
theorem spagesGo_no {seen : List Int} {pc : Bool} {k : List Int → Bool} {p : Pg} {ps : List Pg} (h : pageOk p = false ∨ (pc = true ∧ p.state ≠ 0) ∨ (p.state = 1 ∧ p.rc.seq ∈ seen)) : spagesGo seen pc k (p :: ps) = false := by
  rw [spagesGo, if_pos h]
theorem spagesGo_eq (k : List Int → Bool) : ∀ (ps : List Pg) (seen : List Int) (pc : Bool), spagesGo seen pc k ps = (shapeGo pc ps && pagesGo seen k ps)
  | [], seen, pc => by simp [spagesGo, shapeGo, pagesGo]
  | p :: ps, seen, pc => by
    unfold spagesGo shapeGo pagesGo
    rw [spagesGo_eq k ps]
    by_cases h1 : pageOk p = false
    · simp [h1]
    · by_cases h2 : pc = true ∧ p.state ≠ 0
      · simp [h2]
      · have h2' : ¬ (pc && p.state != 0) = true := by simpa using h2
        rw [if_neg h2', if_neg h1]
        by_cases h3 : p.state = 1
        · by_cases h4 : p.rc.seq ∈ seen
          · simp [h1, h2, h3, h4]
          · rw [if_neg (by simp [h1, h2, h3, h4]; simpa [h3] using h2), if_pos h3, if_neg (by simp [h3]), if_neg h4]
        · rw [if_neg (by simp [h1, h3]; simpa using h2), if_neg h3, if_pos h3]
theorem sblocksGo_eq : ∀ (f : List Bk) (seen : List Int), sblocksGo seen f = blocksGo seen f
  | [], _ => rfl
  | b :: bs, seen => by
    unfold sblocksGo blocksGo
    have e : (fun s => sblocksGo s bs) = (fun s => blocksGo s bs) := by funext s; exact sblocksGo_eq bs s
    rw [e, spagesGo_eq]
    by_cases h : b.pages.length ≠ 4 ∨ b.worn < 0 ∨ 200 < b.worn
    · rw [if_pos h, if_pos]
      unfold blockShape
      rcases h with h | h | h <;> simp [h] <;> omega
    · rw [if_neg h]
      have h1 : b.pages.length = 4 ∧ 0 ≤ b.worn ∧ b.worn ≤ 200 := by omega
      have h2 : blockShape b = shapeGo false b.pages := by unfold blockShape; simp [h1.1, h1.2.1, h1.2.2]
      rw [h2]
      cases shapeGo false b.pages <;> simp
end Go.Proofs.Ytlchlhjjoddocaa
