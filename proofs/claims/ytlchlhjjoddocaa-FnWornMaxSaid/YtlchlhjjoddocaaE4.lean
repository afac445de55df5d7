/- Plain laws: a flash is ok just if its blocks are and no number is there twice; wiping keeps that. -/
import Derived.Test.YtlchlhjjoddocaaC2
namespace Go.Proofs.Ytlchlhjjoddocaa
set_option linter.unusedVariables false
set_option linter.unusedSimpArgs false
def seqsP (ps : List Pg) : List Int := (ps.filter fun p => decide (p.state = 1)).map fun p => p.rc.seq
def seqsF (f : List Bk) : List Int := f.flatMap fun b => seqsP b.pages
theorem seqsP_cons (p : Pg) (ps : List Pg) : seqsP (p :: ps) = if p.state = 1 then p.rc.seq :: seqsP ps else seqsP ps := by
  unfold seqsP
  rw [List.filter_cons]
  by_cases h : p.state = 1 <;> simp [h]
theorem pagesGo_iff (k : List Int → Bool) : ∀ (ps : List Pg) (seen : List Int), pagesGo seen k ps = true ↔ (∀ p ∈ ps, pageOk p = true) ∧ (seqsP ps).Nodup ∧ (∀ q ∈ seqsP ps, q ∉ seen) ∧ k ((seqsP ps).reverse ++ seen) = true
  | [], seen => by simp [pagesGo, seqsP]
  | p :: ps, seen => by
    unfold pagesGo
    rw [seqsP_cons]
    by_cases h1 : pageOk p = false
    · simp [h1]
    · have h1' : pageOk p = true := by simpa using h1
      rw [if_neg h1]
      by_cases h2 : p.state = 1
      · rw [if_neg (by simpa using h2), if_pos h2]
        by_cases h3 : p.rc.seq ∈ seen
        · rw [if_pos h3]
          constructor
          · intro h; cases h
          · rintro ⟨_, _, h, _⟩; exact absurd h3 (h _ (List.mem_cons_self ..))
        · rw [if_neg h3, pagesGo_iff k ps]
          constructor
          · rintro ⟨a, b, c, d⟩
            refine ⟨?_, List.nodup_cons.2 ⟨fun hm => c _ hm (List.mem_cons_self ..), b⟩, ?_, ?_⟩
            · intro q hq; rcases List.mem_cons.1 hq with rfl | hq; exact h1'; exact a q hq
            · intro q hq; rcases List.mem_cons.1 hq with rfl | hq; exact h3; exact fun hm => c q hq (List.mem_cons_of_mem _ hm)
            · rw [List.reverse_cons, List.append_assoc]; exact d
          · rintro ⟨a, b, c, d⟩
            obtain ⟨b1, b2⟩ := List.nodup_cons.1 b
            refine ⟨fun q hq => a q (List.mem_cons_of_mem _ hq), b2, ?_, ?_⟩
            · intro q hq hm
              rcases List.mem_cons.1 hm with rfl | hm
              · exact b1 hq
              · exact c q (List.mem_cons_of_mem _ hq) hm
            · rw [List.reverse_cons, List.append_assoc] at d; exact d
      · rw [if_pos h2, if_neg h2, pagesGo_iff k ps]
        constructor
        · rintro ⟨a, b⟩
          exact ⟨fun q hq => by rcases List.mem_cons.1 hq with rfl | hq; exact h1'; exact a q hq, b⟩
        · rintro ⟨a, b⟩
          exact ⟨fun q hq => a q (List.mem_cons_of_mem _ hq), b⟩
theorem blocksGo_iff : ∀ (f : List Bk) (seen : List Int), blocksGo seen f = true ↔ (∀ b ∈ f, blockShape b = true ∧ ∀ p ∈ b.pages, pageOk p = true) ∧ (seqsF f).Nodup ∧ (∀ q ∈ seqsF f, q ∉ seen)
  | [], seen => by simp [blocksGo, seqsF]
  | b :: f, seen => by
    unfold blocksGo
    rw [show seqsF (b :: f) = seqsP b.pages ++ seqsF f from by simp [seqsF]]
    by_cases h1 : blockShape b = false
    · simp [h1]
    · have h1' : blockShape b = true := by simpa using h1
      rw [if_neg h1, pagesGo_iff, blocksGo_iff f]
      constructor
      · rintro ⟨a, b1, c, d, e, g⟩
        refine ⟨fun x hx => ?_, List.nodup_append.2 ⟨b1, e, fun x hx y hy hxy => ?_⟩, fun q hq => ?_⟩
        · rcases List.mem_cons.1 hx with rfl | hx
          · exact ⟨h1', a⟩
          · exact d x hx
        · subst hxy; exact g x hy (List.mem_append_left _ (List.mem_reverse.2 hx))
        · rcases List.mem_append.1 hq with hq | hq
          · exact c q hq
          · exact fun hm => g q hq (List.mem_append_right _ hm)
      · rintro ⟨a, b1, c⟩
        obtain ⟨n1, n2, n3⟩ := List.nodup_append.1 b1
        refine ⟨(a b (List.mem_cons_self ..)).2, n1, fun q hq => c q (List.mem_append_left _ hq), fun x hx => a x (List.mem_cons_of_mem _ hx), n2, fun q hq hm => ?_⟩
        rcases List.mem_append.1 hm with hm | hm
        · exact n3 q (List.mem_reverse.1 hm) q hq rfl
        · exact c q (List.mem_append_right _ hq) hm
theorem flashOk_iff (f : List Bk) : flashOk f = true ↔ f.length = 4 ∧ (∀ b ∈ f, blockShape b = true ∧ ∀ p ∈ b.pages, pageOk p = true) ∧ (seqsF f).Nodup := by
  unfold flashOk
  rw [Bool.and_eq_true, decide_eq_true_iff, blocksGo_iff]
  constructor
  · rintro ⟨a, b, c, _⟩; exact ⟨a, b, c⟩
  · rintro ⟨a, b, c⟩; exact ⟨a, b, c, fun _ _ h => by cases h⟩
/-- a block without numbers put in the place of another -/
theorem seqsF_set : ∀ (f : List Bk) (i : Nat) (b : Bk), seqsP b.pages = [] → (seqsF (f.set i b)).Sublist (seqsF f)
  | [], i, b, h => by simp
  | c :: f, 0, b, h => by
    rw [List.set_cons_zero, show seqsF (b :: f) = seqsP b.pages ++ seqsF f from by simp [seqsF], show seqsF (c :: f) = seqsP c.pages ++ seqsF f from by simp [seqsF], h]
    exact List.sublist_append_right _ _
  | c :: f, i + 1, b, h => by
    rw [List.set_cons_succ, show seqsF (c :: f.set i b) = seqsP c.pages ++ seqsF (f.set i b) from by simp [seqsF], show seqsF (c :: f) = seqsP c.pages ++ seqsF f from by simp [seqsF]]
    exact (seqsF_set f i b h).append_left _
theorem getD_mem {f : List Bk} {i : Nat} (h : i < f.length) : f.getD i zbk ∈ f := by
  rw [List.getD_eq_getElem?_getD, List.getElem?_eq_getElem h]
  exact List.getElem_mem h
theorem wiped_ok {f : List Bk} (h : flashOk f = true) {i : Nat} (hi : i < 4) (torn : Bool) (hw : (f.getD i zbk).worn ≠ 200) : flashOk (wipe f i torn) = true := by
  have hs := flashOk_shape h _ (getD_mem (i := i) (by have := flashOk_len h; omega))
  rw [flashOk_iff] at h ⊢
  obtain ⟨a, b, c⟩ := h
  have key : blockShape ⟨List.replicate 4 (if torn then ⟨2, rc0⟩ else pg0), (f.getD i zbk).worn + 1⟩ = true := by
    unfold blockShape
    have h1 : 0 ≤ (f.getD i zbk).worn + 1 := by omega
    have h2 : (f.getD i zbk).worn + 1 ≤ 200 := by omega
    simp only [h1, h2, decide_true, Bool.true_and, List.length_replicate]
    cases torn <;> decide
  refine ⟨by unfold wipe; simpa using a, fun x hx => ?_, (seqsF_set f i _ ?_).nodup c⟩
  · unfold wipe at hx
    rcases List.mem_or_eq_of_mem_set hx with hx | rfl
    · exact b x hx
    · refine ⟨key, fun p hp => ?_⟩
      have := List.eq_of_mem_replicate hp
      subst this
      cases torn <;> decide
  · show seqsP (List.replicate 4 (if torn then ⟨2, rc0⟩ else pg0)) = []
    cases torn <;> decide
theorem wipe_len (f : List Bk) (i : Nat) (torn : Bool) : (wipe f i torn).length = f.length := by unfold wipe; simp
theorem wipe_at {f : List Bk} {i : Nat} (h : i < f.length) (torn : Bool) : (wipe f i torn)[i]? = some ⟨List.replicate 4 (if torn then ⟨2, rc0⟩ else pg0), (f.getD i zbk).worn + 1⟩ := by
  unfold wipe; rw [List.getElem?_set_self h]
theorem wipe_ne {f : List Bk} {i j : Nat} (h : j ≠ i) (torn : Bool) : (wipe f i torn)[j]? = f[j]? := by
  unfold wipe; rw [List.getElem?_set_ne (by omega)]
end Go.Proofs.Ytlchlhjjoddocaa
