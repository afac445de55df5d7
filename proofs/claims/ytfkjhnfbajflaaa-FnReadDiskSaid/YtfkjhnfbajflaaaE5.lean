/- Plain laws: a page written keeps a flash ok; a block's numbers, its greatest, its least. -/
import Derived.Test.YtfkjhnfbajflaaaQ9
import Derived.Test.YtfkjhnfbajflaaaH1
namespace Go.Proofs.Ytfkjhnfbajflaaa
set_option linter.unusedVariables false
set_option linter.unusedSimpArgs false
theorem mem_seqsP {q : Int} {ps : List Pg} : q ∈ seqsP ps ↔ ∃ p ∈ ps, p.state = 1 ∧ p.rc.seq = q := by
  unfold seqsP
  rw [List.mem_map]
  constructor
  · rintro ⟨p, hp, rfl⟩
    rw [List.mem_filter] at hp
    exact ⟨p, hp.1, by simpa using hp.2, rfl⟩
  · rintro ⟨p, hp, h1, rfl⟩
    exact ⟨p, List.mem_filter.2 ⟨hp, by simpa using h1⟩, rfl⟩
theorem mem_seqsF {q : Int} {f : List Bk} : q ∈ seqsF f ↔ ∃ b ∈ f, q ∈ seqsP b.pages := by unfold seqsF; rw [List.mem_flatMap]
theorem seqIn_iff {f : List Bk} {s : Int} : seqIn f s = true ↔ s ∈ seqsF f := by
  rw [mem_seqsF]
  unfold seqIn
  rw [List.any_eq_true]
  constructor
  · rintro ⟨b, hb, h⟩
    rw [List.any_eq_true] at h
    obtain ⟨p, hp, h⟩ := h
    unfold hasSeq at h
    rw [Bool.and_eq_true, decide_eq_true_iff, decide_eq_true_iff] at h
    exact ⟨b, hb, mem_seqsP.2 ⟨p, hp, h.1, h.2⟩⟩
  · rintro ⟨b, hb, h⟩
    obtain ⟨p, hp, h1, h2⟩ := mem_seqsP.1 h
    refine ⟨b, hb, List.any_eq_true.2 ⟨p, hp, ?_⟩⟩
    unfold hasSeq
    rw [Bool.and_eq_true, decide_eq_true_iff, decide_eq_true_iff]
    exact ⟨h1, h2⟩
/-- two blocks' numbers are apart -/
theorem seqs_apart : ∀ {f : List Bk}, (seqsF f).Nodup → ∀ {i j : Nat} {a b : Bk} {q : Int}, i ≠ j → f[i]? = some a → f[j]? = some b → q ∈ seqsP a.pages → q ∉ seqsP b.pages
  | [], _, i, j, a, b, q, _, h1, _, _ => by simp at h1
  | c :: f, hn, i, j, a, b, q, hij, h1, h2, hq => by
    rw [show seqsF (c :: f) = seqsP c.pages ++ seqsF f from by simp [seqsF], List.nodup_append] at hn
    obtain ⟨n1, n2, n3⟩ := hn
    intro hq2
    cases i with
    | zero =>
      rw [List.getElem?_cons_zero, Option.some.injEq] at h1
      subst h1
      cases j with
      | zero => exact hij rfl
      | succ j =>
        rw [List.getElem?_cons_succ] at h2
        exact n3 q hq q (mem_seqsF.2 ⟨b, List.mem_of_getElem? h2, hq2⟩) rfl
    | succ i =>
      rw [List.getElem?_cons_succ] at h1
      cases j with
      | zero =>
        rw [List.getElem?_cons_zero, Option.some.injEq] at h2
        subst h2
        exact n3 q hq2 q (mem_seqsF.2 ⟨a, List.mem_of_getElem? h1, hq⟩) rfl
      | succ j =>
        rw [List.getElem?_cons_succ] at h2
        exact seqs_apart n2 (fun e => hij (by rw [e])) h1 h2 hq hq2
theorem mostPs_spec : ∀ (ps : List Pg) (n : Int), (∀ p ∈ ps, pageOk p = true) → 0 ≤ n → n ≤ mostPs n ps ∧ (∀ q ∈ seqsP ps, q ≤ mostPs n ps) ∧ (mostPs n ps = n ∨ mostPs n ps ∈ seqsP ps)
  | [], n, _, _ => ⟨by unfold mostPs; simp, fun q h => by simp [seqsP] at h, .inl rfl⟩
  | p :: ps, n, hp, h => by
    have ho := hp p (List.mem_cons_self ..)
    obtain ⟨i1, i2, i3⟩ := mostPs_spec ps (max n p.rc.seq) (fun q hq => hp q (List.mem_cons_of_mem _ hq)) (by omega)
    have he : mostPs n (p :: ps) = mostPs (max n p.rc.seq) ps := rfl
    rw [he, seqsP_cons]
    by_cases h1 : p.state = 1
    · rw [if_pos h1]
      refine ⟨by omega, fun q hq => ?_, ?_⟩
      · rcases List.mem_cons.1 hq with rfl | hq
        · omega
        · exact i2 q hq
      · rcases i3 with i3 | i3
        · rw [i3]
          by_cases hm : n ≤ p.rc.seq
          · right; rw [show max n p.rc.seq = p.rc.seq by omega]; exact List.mem_cons_self ..
          · left; omega
        · exact .inr (List.mem_cons_of_mem _ i3)
    · rw [if_neg h1]
      have := clean_seq ho h1
      rw [show max n p.rc.seq = n by omega] at *
      exact ⟨i1, i2, i3⟩
theorem seq_pos {ps : List Pg} (hp : ∀ p ∈ ps, pageOk p = true) {q : Int} (hq : q ∈ seqsP ps) : 1 ≤ q ∧ q ≤ 600 := by
  obtain ⟨p, h, h1, rfl⟩ := mem_seqsP.1 hq
  have := recOk_addr (rec_of_written (hp p h) h1)
  omega
theorem leastPs_spec : ∀ (ps : List Pg) (n : Int), (∀ p ∈ ps, pageOk p = true) → 0 ≤ n →
    (ps.foldl leastStep n = n ∧ (n = 0 → seqsP ps = []) ∨ ps.foldl leastStep n ∈ seqsP ps) ∧ (∀ q ∈ seqsP ps, ps.foldl leastStep n ≤ q) ∧ (0 < n → 0 < ps.foldl leastStep n ∧ ps.foldl leastStep n ≤ n) ∧ 0 ≤ ps.foldl leastStep n
  | [], n, _, h => ⟨.inl ⟨rfl, fun _ => rfl⟩, fun q hq => by simp [seqsP] at hq, fun h => ⟨h, Int.le_refl _⟩, h⟩
  | p :: ps, n, hp, h => by
    have ho := hp p (List.mem_cons_self ..)
    have hps := fun q hq => hp q (List.mem_cons_of_mem _ hq)
    rw [List.foldl_cons, seqsP_cons]
    by_cases h1 : p.state = 1
    · have hr := recOk_addr (rec_of_written ho h1)
      rw [if_pos h1]
      unfold leastStep
      by_cases hc : 0 < p.rc.seq ∧ (n = 0 ∨ p.rc.seq < n)
      · rw [if_pos hc]
        obtain ⟨i1, i2, i3, i4⟩ := leastPs_spec ps p.rc.seq hps (by omega)
        have i5 := i3 (by omega)
        unfold leastStep at *
        refine ⟨.inr ?_, fun q hq => ?_, fun h0 => ⟨i5.1, by omega⟩, i4⟩
        · rcases i1 with ⟨i1, _⟩ | i1
          · rw [i1]; exact List.mem_cons_self ..
          · exact List.mem_cons_of_mem _ i1
        · rcases List.mem_cons.1 hq with rfl | hq
          · exact i5.2
          · exact i2 q hq
      · rw [if_neg hc]
        obtain ⟨i1, i2, i3, i4⟩ := leastPs_spec ps n hps h
        have h0 : 0 < n := by
          by_cases h0 : 0 < n
          · exact h0
          · exact absurd ⟨by omega, .inl (by omega)⟩ hc
        have i5 := i3 h0
        unfold leastStep at *
        refine ⟨?_, fun q hq => ?_, i3, i4⟩
        · rcases i1 with ⟨i1, _⟩ | i1
          · exact .inl ⟨i1, fun e => by omega⟩
          · exact .inr (List.mem_cons_of_mem _ i1)
        · rcases List.mem_cons.1 hq with rfl | hq
          · have : ¬ p.rc.seq < n := fun e => hc ⟨by omega, .inr e⟩
            omega
          · exact i2 q hq
    · rw [if_neg h1]
      have h0 := clean_seq ho h1
      have : leastStep n p = n := by unfold leastStep; rw [if_neg (by rintro ⟨h, _⟩; omega)]
      rw [this]
      exact leastPs_spec ps n hps h
/-- the greatest and the least number of a block -/
theorem most_le {b : Bk} (hp : ∀ p ∈ b.pages, pageOk p = true) {q : Int} (hq : q ∈ seqsP b.pages) : q ≤ most b := (mostPs_spec b.pages 0 hp (Int.le_refl _)).2.1 q hq
theorem most_mem {b : Bk} (hp : ∀ p ∈ b.pages, pageOk p = true) (h : 0 < most b) : most b ∈ seqsP b.pages := by
  rcases (mostPs_spec b.pages 0 hp (Int.le_refl _)).2.2 with h1 | h1
  · have : most b = 0 := h1
    omega
  · exact h1
theorem most_nn {b : Bk} (hp : ∀ p ∈ b.pages, pageOk p = true) : 0 ≤ most b := (mostPs_spec b.pages 0 hp (Int.le_refl _)).1
theorem least_le {b : Bk} (hp : ∀ p ∈ b.pages, pageOk p = true) {q : Int} (hq : q ∈ seqsP b.pages) : least b ≤ q := (leastPs_spec b.pages 0 hp (Int.le_refl _)).2.1 q hq
theorem least_mem {b : Bk} (hp : ∀ p ∈ b.pages, pageOk p = true) (h : 0 < most b) : least b ∈ seqsP b.pages := by
  have hm := most_mem hp h
  rcases (leastPs_spec b.pages 0 hp (Int.le_refl _)).1 with ⟨_, h2⟩ | h2
  · rw [h2 rfl] at hm; cases hm
  · exact h2
theorem least_most {b : Bk} (hp : ∀ p ∈ b.pages, pageOk p = true) (h : 0 < most b) : 0 < least b ∧ least b ≤ most b :=
  ⟨by have := seq_pos hp (least_mem hp h); omega, most_le hp (least_mem hp h)⟩
theorem most_none {b : Bk} (hp : ∀ p ∈ b.pages, pageOk p = true) (h : seqsP b.pages = []) : most b = 0 := by
  have h0 := most_nn hp
  by_cases hm : 0 < most b
  · have := most_mem hp hm
    rw [h] at this; cases this
  · omega
/-! ### a page written -/
theorem four {α : Type} {l : List α} (h : l.length = 4) : ∃ a b c d, l = [a, b, c, d] := by
  match l, h with
  | [a, b, c, d], _ => exact ⟨a, b, c, d, rfl⟩
theorem shape_put {ps : List Pg} (h4 : ps.length = 4) (hs : shapeGo false ps = true) {q : Pg} (hq : q.state ≠ 0) (hc : ps.countP isClean ≠ 0) :
    shapeGo false (ps.set (4 - ps.countP isClean) q) = true ∧ (∃ p, ps[4 - ps.countP isClean]? = some p ∧ p.state = 0) ∧ (ps.set (4 - ps.countP isClean) q).countP isClean + 1 = ps.countP isClean := by
  obtain ⟨a, b, c, d, rfl⟩ := four h4
  by_cases ha : a.state = 0 <;> by_cases hb : b.state = 0 <;> by_cases hc' : c.state = 0 <;> by_cases hd : d.state = 0 <;>
    simp [shapeGo, isClean, List.countP_cons, ha, hb, hc', hd, hq] at hs hc ⊢
theorem seqsP_put : ∀ (ps : List Pg) (k : Nat) (p q : Pg), ps[k]? = some p → p.state ≠ 1 → q.state = 1 → (seqsP (ps.set k q)).Perm (q.rc.seq :: seqsP ps)
  | [], k, p, q, h, _, _ => by simp at h
  | a :: ps, 0, p, q, h, h1, hq => by
    rw [List.getElem?_cons_zero, Option.some.injEq] at h
    subst h
    rw [List.set_cons_zero, seqsP_cons, seqsP_cons, if_pos hq, if_neg h1]
  | a :: ps, k + 1, p, q, h, h1, hq => by
    rw [List.getElem?_cons_succ] at h
    have ih := seqsP_put ps k p q h h1 hq
    rw [List.set_cons_succ, seqsP_cons, seqsP_cons]
    split
    · exact (ih.cons _).trans (List.Perm.swap _ _ _)
    · exact ih
theorem seqsP_torn : ∀ (ps : List Pg) (k : Nat) (p q : Pg), ps[k]? = some p → p.state ≠ 1 → q.state ≠ 1 → seqsP (ps.set k q) = seqsP ps
  | [], k, p, q, h, _, _ => by simp at h
  | a :: ps, 0, p, q, h, h1, hq => by
    rw [List.getElem?_cons_zero, Option.some.injEq] at h
    subst h
    rw [List.set_cons_zero, seqsP_cons, seqsP_cons, if_neg hq, if_neg h1]
  | a :: ps, k + 1, p, q, h, h1, hq => by
    rw [List.getElem?_cons_succ] at h
    have ih := seqsP_torn ps k p q h h1 hq
    rw [List.set_cons_succ, seqsP_cons, seqsP_cons, ih]
theorem seqsF_put : ∀ (f : List Bk) (i : Nat) (b c : Bk) (xs : List Int), f[i]? = some b → (seqsP c.pages).Perm (xs ++ seqsP b.pages) → (seqsF (f.set i c)).Perm (xs ++ seqsF f)
  | [], i, b, c, xs, h, _ => by simp at h
  | a :: f, 0, b, c, xs, h, hc => by
    rw [List.getElem?_cons_zero, Option.some.injEq] at h
    subst h
    rw [List.set_cons_zero, show seqsF (c :: f) = seqsP c.pages ++ seqsF f from by simp [seqsF], show seqsF (a :: f) = seqsP a.pages ++ seqsF f from by simp [seqsF], ← List.append_assoc]
    exact hc.append_right _
  | a :: f, i + 1, b, c, xs, h, hc => by
    rw [List.getElem?_cons_succ] at h
    have ih := seqsF_put f i b c xs h hc
    rw [List.set_cons_succ, show seqsF (a :: f.set i c) = seqsP a.pages ++ seqsF (f.set i c) from by simp [seqsF], show seqsF (a :: f) = seqsP a.pages ++ seqsF f from by simp [seqsF]]
    refine (ih.append_left _).trans ?_
    rw [← List.append_assoc, ← List.append_assoc]
    exact List.perm_append_comm.append_right _
/-- the page that a record leaves -/
def putPg (r : Rc) (torn : Bool) : Pg := if torn then ⟨2, rc0⟩ else ⟨1, r⟩
def putBk (b : Bk) (r : Rc) (torn : Bool) : Bk := { b with pages := b.pages.set (4 - clean b) (putPg r torn) }
theorem putPg_ok {r : Rc} (h : recOk r = true) (torn : Bool) : pageOk (putPg r torn) = true ∧ (putPg r torn).state ≠ 0 := by
  cases torn
  · exact ⟨put_ok h, by show (1 : Int) ≠ 0; decide⟩
  · exact ⟨torn_ok, by show (2 : Int) ≠ 0; decide⟩
theorem bk_parts {f : List Bk} (h : flashOk f = true) {b : Bk} (hb : b ∈ f) : b.pages.length = 4 ∧ (0 ≤ b.worn ∧ b.worn ≤ 200) ∧ shapeGo false b.pages = true ∧ ∀ p ∈ b.pages, pageOk p = true := by
  obtain ⟨h1, h2⟩ := ((flashOk_iff f).1 h).2.1 b hb
  unfold blockShape at h1
  rw [Bool.and_eq_true, Bool.and_eq_true, Bool.and_eq_true, decide_eq_true_iff, decide_eq_true_iff, decide_eq_true_iff] at h1
  exact ⟨h1.1, ⟨h1.2.1, h1.2.2.1⟩, h1.2.2.2, h2⟩
theorem putBk_parts {f : List Bk} (h : flashOk f = true) {b : Bk} (hb : b ∈ f) {r : Rc} (hr : recOk r = true) (torn : Bool) (hc : clean b ≠ 0) :
    blockShape (putBk b r torn) = true ∧ (∀ p ∈ (putBk b r torn).pages, pageOk p = true) ∧ clean (putBk b r torn) + 1 = clean b ∧
    (torn = true → seqsP (putBk b r torn).pages = seqsP b.pages) ∧ (torn = false → (seqsP (putBk b r torn).pages).Perm ([r.seq] ++ seqsP b.pages)) := by
  obtain ⟨h1, h2, h3, h4⟩ := bk_parts h hb
  obtain ⟨p1, p2⟩ := putPg_ok hr torn
  obtain ⟨s1, ⟨p, hp, hp0⟩, s3⟩ := shape_put h1 h3 p2 hc
  refine ⟨?_, fun q hq => ?_, s3, ?_, ?_⟩
  · unfold blockShape putBk
    rw [Bool.and_eq_true, Bool.and_eq_true, Bool.and_eq_true, decide_eq_true_iff, decide_eq_true_iff, decide_eq_true_iff]
    exact ⟨by rw [List.length_set]; exact h1, h2.1, h2.2, s1⟩
  · rcases List.mem_or_eq_of_mem_set hq with hq | rfl
    · exact h4 q hq
    · exact p1
  · rintro rfl
    exact seqsP_torn _ _ p _ hp (by omega) (by show (2 : Int) ≠ 1; decide)
  · rintro rfl
    exact seqsP_put _ _ p _ hp (by omega) rfl
theorem put_ok4 {f : List Bk} (h : flashOk f = true) {i : Nat} {b : Bk} (hb : f[i]? = some b) {r : Rc} (hr : recOk r = true) (torn : Bool) (hc : clean b ≠ 0) (hs : seqIn f r.seq ≠ true) : flashOk (f.set i (putBk b r torn)) = true := by
  obtain ⟨k1, k2, _, k4, k5⟩ := putBk_parts h (List.mem_of_getElem? hb) hr torn hc
  replace hs : r.seq ∉ seqsF f := fun e => hs (seqIn_iff.2 e)
  rw [flashOk_iff] at h ⊢
  obtain ⟨a, b', c⟩ := h
  refine ⟨by simpa using a, fun x hx => ?_, ?_⟩
  · rcases List.mem_or_eq_of_mem_set hx with hx | rfl
    · exact b' x hx
    · exact ⟨k1, k2⟩
  · cases torn
    · exact (seqsF_put f i b _ [r.seq] hb (k5 rfl)).nodup_iff.2 (List.nodup_cons.2 ⟨hs, c⟩)
    · exact (seqsF_put f i b _ [] hb (by rw [k4 rfl]; exact List.Perm.refl _)).nodup_iff.2 c
/-- what FlashWrite answers, of an ok flash -/
theorem write_some {f : List Bk} (h : flashOk f = true) {i : Nat} {b : Bk} (hb : f[i]? = some b) {r : Rc} (hr : recOk r = true) (torn : Bool) :
    flashWrite f i r torn = if clean b = 0 ∨ seqIn f r.seq = true then (f, false) else (f.set i (putBk b r torn), true) := by
  have hl := flashOk_len h
  have hi : i < 4 := by rw [← hl]; exact (List.getElem?_eq_some_iff.1 hb).1
  have hg : f.getD i zbk = b := by rw [List.getD_eq_getElem?_getD, hb]; rfl
  have hB : blockB (i : Int) = true := by unfold blockB; simp; omega
  unfold flashWrite
  rw [if_neg (by rw [h, hB, hr]; simp), Int.toNat_natCast]
  unfold writeR
  rw [hg]
  rfl
end Go.Proofs.Ytfkjhnfbajflaaa
