/- Walks: FnNextWipe. -/
import Derived.Test.YtfkjhnfbajflaaaQ6
import Derived.Test.YtfkjhnfbajflaaaG7
import Derived.Test.YtfkjhnfbajflaaaH6
namespace Go.Proofs.Ytfkjhnfbajflaaa
set_option linter.unusedVariables false
set_option linter.unusedSimpArgs false
open Go.RowKit Go.Maps
set_option maxHeartbeats 400000
theorem flFine_of {f : List Bk} (h : flashOk f = true) : flFine f := by
  have h2 := blocksGo_true (f := f) (seen := []) (by unfold flashOk at h; simp at h; exact h.2)
  exact ⟨flashOk_len h, fun b hb => ⟨(flashOk_shape h b hb).1, (flashOk_shape h b hb).2.1, (flashOk_shape h b hb).2.2, (h2 b hb).2⟩⟩
theorem mostPs_max : ∀ (ps : List Pg) (n m : Int), mostPs (max n m) ps = max n (mostPs m ps)
  | [], _, _ => rfl
  | p :: ps, n, m => by
    show mostPs (max (max n m) p.rc.seq) ps = max n (mostPs (max m p.rc.seq) ps)
    rw [show max (max n m) p.rc.seq = max n (max m p.rc.seq) by omega]
    exact mostPs_max ps n _
theorem clean_seq {p : Pg} (h : pageOk p = true) (h1 : p.state ≠ 1) : p.rc.seq = 0 := by
  unfold pageOk at h
  rw [if_neg h1] at h
  split at h
  · have : p.rc = rc0 := by simpa using h
    rw [this]; rfl
  · cases h
theorem tag_fold : ∀ (ps : List Pg) (i j : Nat) (n : Int), (∀ p ∈ ps, pageOk p = true) → 0 ≤ n → (tagFrom i j ps).foldl bigStep n = mostPs n ps ∧ 0 ≤ mostPs n ps
  | [], _, _, _, _, h => ⟨rfl, h⟩
  | p :: ps, i, j, n, hp, h => by
    have hs : bigStep n (i, j, p) = max n p.rc.seq := by
      unfold bigStep
      dsimp only
      split
      · rfl
      · rename_i h1
        have := clean_seq (hp p (List.mem_cons_self ..)) h1
        omega
    have ih := tag_fold ps i (j + 1) (max n p.rc.seq) (fun q hq => hp q (List.mem_cons_of_mem _ hq)) (by omega)
    rw [tagFrom, List.foldl_cons, hs]
    exact ih
theorem all_fold : ∀ (f : List Bk) (i : Nat) (n : Int), (∀ b ∈ f, ∀ p ∈ b.pages, pageOk p = true) → 0 ≤ n → (allFrom i f).foldl bigStep n = f.foldl (fun n b => max n (most b)) n
  | [], _, _, _, _ => rfl
  | b :: f, i, n, hp, h => by
    obtain ⟨h1, h2⟩ := tag_fold b.pages i 0 n (hp b (List.mem_cons_self ..)) h
    rw [allFrom, List.foldl_append, h1, List.foldl_cons]
    have h3 : mostPs n b.pages = max n (most b) := by
      have := mostPs_max b.pages n 0
      rw [show max n 0 = n by omega] at this
      exact this
    rw [← h3]
    exact all_fold f (i + 1) _ (fun c hc => hp c (List.mem_cons_of_mem _ hc)) h2
theorem findNext_eq {f : List Bk} (h : flashOk f = true) : findNext f = next f := by
  unfold findNext next topSeq bigOf
  rw [if_pos h, all_fold f 0 0 (flFine_pages (flFine_of h)) (by omega)]
theorem big_le {M : Int} : ∀ {xs : List PgAt} {n : Int}, n ≤ M → (∀ x ∈ xs, x.2.2.state = 1 → x.2.2.rc.seq ≤ M) → xs.foldl bigStep n ≤ M
  | [], _, h, _ => h
  | x :: xs, n, h, hx => by
    refine big_le (xs := xs) (n := bigStep n x) ?_ (fun y hy => hx y (List.mem_cons_of_mem _ hy))
    unfold bigStep
    split
    · rename_i h1; have := hx x (List.mem_cons_self ..) h1; omega
    · exact h
theorem le_big0 : ∀ {xs : List PgAt} {n : Int}, n ≤ xs.foldl bigStep n
  | [], _ => by show _ ≤ _; exact Int.le_refl _
  | x :: xs, n => by
    have h1 : n ≤ bigStep n x := by unfold bigStep; split <;> omega
    have h2 := le_big0 (xs := xs) (n := bigStep n x)
    show n ≤ xs.foldl bigStep (bigStep n x)
    omega
theorem le_big {x : PgAt} (h1 : x.2.2.state = 1) : ∀ {xs : List PgAt} {n : Int}, x ∈ xs → x.2.2.rc.seq ≤ xs.foldl bigStep n
  | [], _, h => by cases h
  | y :: xs, n, h => by
    show _ ≤ xs.foldl bigStep (bigStep n y)
    rcases List.mem_cons.1 h with rfl | h
    · have h2 : x.2.2.rc.seq ≤ bigStep n x := by unfold bigStep; rw [if_pos h1]; omega
      have h3 := le_big0 (xs := xs) (n := bigStep n x)
      omega
    · exact le_big h1 h
theorem tag_mem {i : Nat} {p : Pg} : ∀ {ps : List Pg} {j : Nat}, p ∈ ps → ∃ y ∈ tagFrom i j ps, y.2.2 = p
  | [], _, h => by cases h
  | q :: ps, j, h => by
    rw [tagFrom]
    rcases List.mem_cons.1 h with rfl | h
    · exact ⟨(i, j, p), List.mem_cons_self .., rfl⟩
    · obtain ⟨y, hy, e⟩ := tag_mem (j := j + 1) h
      exact ⟨y, List.mem_cons_of_mem _ hy, e⟩
theorem all_mem {p : Pg} {b : Bk} (hp : p ∈ b.pages) : ∀ {f : List Bk} {i : Nat}, b ∈ f → ∃ y ∈ allFrom i f, y.2.2 = p
  | [], _, h => by cases h
  | c :: f, i, h => by
    rw [allFrom]
    rcases List.mem_cons.1 h with rfl | h
    · obtain ⟨y, hy, e⟩ := tag_mem (i := i) (j := 0) hp
      exact ⟨y, List.mem_append_left _ hy, e⟩
    · obtain ⟨y, hy, e⟩ := all_mem hp (i := i + 1) h
      exact ⟨y, List.mem_append_right _ hy, e⟩
theorem wiped_big (f : List Bk) (k : Nat) (t : Bool) : bigOf (allFrom 0 (wipe f k t)) ≤ bigOf (allFrom 0 f) := by
  unfold bigOf
  refine big_le (le_big0) (fun x hx h1 => ?_)
  obtain ⟨b, hb, hp⟩ := mem_all hx
  unfold wipe at hb
  rcases mem_set hb with hb | rfl
  · obtain ⟨y, hy, e⟩ := all_mem hp (i := 0) hb
    rw [← e] at h1 ⊢
    exact le_big h1 hy
  · have := List.eq_of_mem_replicate hp
    rw [this] at h1
    cases t <;> exact absurd h1 (by decide)
theorem findNext_wipe {f : List Bk} {k : Nat} {t : Bool} (h1 : flashOk f = true) (h2 : flashOk (wipe f k t) = true) : 1 ≤ findNext (wipe f k t) ∧ findNext (wipe f k t) ≤ findNext f := by
  have := wiped_big f k t
  have hr := bigOf_range h2
  unfold findNext
  rw [if_pos h1, if_pos h2]
  omega
theorem findNext_new : findNext flashNew = 1 := by decide
end Go.Proofs.Ytfkjhnfbajflaaa
