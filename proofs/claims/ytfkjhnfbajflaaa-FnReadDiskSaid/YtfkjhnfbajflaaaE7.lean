/- Plain laws: the program's order is the reference's; a page written where one is to write, and a wipe, keep it. -/
import Derived.Test.YtfkjhnfbajflaaaE6
import Derived.Test.YtfkjhnfbajflaaaE5
import Derived.Test.YtfkjhnfbajflaaaQ10
namespace Go.Proofs.Ytfkjhnfbajflaaa
set_option linter.unusedVariables false
set_option linter.unusedSimpArgs false
def spn (b : Bk) : Span := (least b, most b)
theorem set_self {α : Type} {d : α} : ∀ {l : List α} {i : Nat}, i < l.length → l.set i (l.getD i d) = l
  | [], i, h => by simp at h
  | a :: l, 0, _ => by simp
  | a :: l, i + 1, h => by
    rw [List.set_cons_succ]
    have := set_self (d := d) (l := l) (i := i) (by simpa using h)
    simpa using this
theorem tag_sp : ∀ (ps : List Pg) (j i : Nat) (ss : List Span), i < ss.length → (∀ p ∈ ps, pageOk p = true) → 0 ≤ (ss.getD i (0, 0)).2 →
    (tagFrom i j ps).foldl spStep ss = ss.set i (ps.foldl leastStep (ss.getD i (0, 0)).1, mostPs (ss.getD i (0, 0)).2 ps)
  | [], j, i, ss, hi, _, _ => by
    show ss = ss.set i ((ss.getD i (0, 0)).1, (ss.getD i (0, 0)).2)
    exact (set_self hi).symm
  | p :: ps, j, i, ss, hi, hp, h => by
    have ho := hp p (List.mem_cons_self ..)
    have hps := fun q hq => hp q (List.mem_cons_of_mem _ hq)
    rw [tagFrom, List.foldl_cons]
    by_cases h1 : p.state = 1
    · have hr := recOk_addr (rec_of_written ho h1)
      have e1 : spStep ss (i, j, p) = ss.set i (leastStep (ss.getD i (0, 0)).1 p, max (ss.getD i (0, 0)).2 p.rc.seq) := by
        unfold spStep
        dsimp only
        rw [if_pos h1]
        congr 2
        unfold lowOf leastStep
        split
        · rename_i hc; rw [if_pos ⟨by omega, hc⟩]
        · rename_i hc; rw [if_neg (fun e => hc e.2)]
      have hg : (ss.set i (leastStep (ss.getD i (0, 0)).1 p, max (ss.getD i (0, 0)).2 p.rc.seq)).getD i (0, 0) = (leastStep (ss.getD i (0, 0)).1 p, max (ss.getD i (0, 0)).2 p.rc.seq) := by
        rw [List.getD_eq_getElem?_getD, List.getElem?_set_self hi]; rfl
      rw [e1, tag_sp ps (j + 1) i _ (by rw [List.length_set]; exact hi) hps (by rw [hg]; dsimp only; omega), hg, List.set_set]
      rfl
    · have h0 := clean_seq ho h1
      have e1 : spStep ss (i, j, p) = ss := by unfold spStep; dsimp only; rw [if_neg h1]
      have e2 : leastStep (ss.getD i (0, 0)).1 p = (ss.getD i (0, 0)).1 := by unfold leastStep; rw [if_neg (by rintro ⟨h, _⟩; omega)]
      have e3 : mostPs (ss.getD i (0, 0)).2 (p :: ps) = mostPs (ss.getD i (0, 0)).2 ps := by
        show mostPs (max (ss.getD i (0, 0)).2 p.rc.seq) ps = _
        rw [show max (ss.getD i (0, 0)).2 p.rc.seq = (ss.getD i (0, 0)).2 by omega]
      rw [e1, tag_sp ps (j + 1) i ss hi hps h, List.foldl_cons, e2, e3]
theorem all_sp : ∀ (f : List Bk) (pre : List Span), (∀ b ∈ f, ∀ p ∈ b.pages, pageOk p = true) → (allFrom pre.length f).foldl spStep (pre ++ List.replicate f.length (0, 0)) = pre ++ f.map spn
  | [], pre, _ => rfl
  | b :: f, pre, hp => by
    have hg : (pre ++ List.replicate (f.length + 1) ((0, 0) : Span)).getD pre.length (0, 0) = (0, 0) := by
      rw [List.getD_eq_getElem?_getD, List.getElem?_append_right (Nat.le_refl _)]; simp
    rw [allFrom, List.foldl_append, List.length_cons, tag_sp b.pages 0 pre.length _ (by simp) (hp b (List.mem_cons_self ..)) (by rw [hg]; exact Int.le_refl _), hg]
    have e1 : (pre ++ List.replicate (f.length + 1) ((0, 0) : Span)).set pre.length (b.pages.foldl leastStep 0, mostPs 0 b.pages) = (pre ++ [spn b]) ++ List.replicate f.length (0, 0) := by
      rw [List.set_append_right _ _ (Nat.le_refl _), Nat.sub_self, List.replicate_succ, List.set_cons_zero]
      simp [spn, least, most]
    have e2 : (pre ++ [spn b]).length = pre.length + 1 := by simp
    have ih := all_sp f (pre ++ [spn b]) (fun c hc => hp c (List.mem_cons_of_mem _ hc))
    rw [e2] at ih
    dsimp only
    rw [e1, ih]
    simp
theorem spOf_eq {f : List Bk} (h : flashOk f = true) : spOf (allFrom 0 f) = f.map spn := by
  have := all_sp f [] (fun b hb => (bk_parts h hb).2.2.2)
  rw [flashOk_len h] at this
  exact this
theorem ordGo_some {ss : List Span} : ∀ (r : List Span) (i : Nat) (n m : Int), ordGo ss i n r = some m ↔ (∀ (k : Nat) (a : Span), r[k]? = some a → ∀ (j : Nat) (b : Span), j < i + k → ss[j]? = some b → spClash a b = false) ∧ m = r.foldl (fun n a => max n a.2) n
  | [], i, n, m => by
    unfold ordGo
    constructor
    · intro h; cases h; exact ⟨fun k a hk => by simp at hk, rfl⟩
    · rintro ⟨_, rfl⟩; rfl
  | a :: r, i, n, m => by
    unfold ordGo
    have ht : (ss.take i).any (spClash a) = true ↔ ∃ (j : Nat) (b : Span), j < i ∧ ss[j]? = some b ∧ spClash a b = true := by
      rw [List.any_eq_true]
      constructor
      · rintro ⟨b, hb, h⟩
        obtain ⟨j, hj⟩ := List.mem_iff_getElem?.1 hb
        rw [List.getElem?_take] at hj
        split at hj
        · rename_i hlt; exact ⟨j, b, hlt, hj, h⟩
        · cases hj
      · rintro ⟨j, b, hj, hb, h⟩
        exact ⟨b, List.mem_iff_getElem?.2 ⟨j, by rw [List.getElem?_take, if_pos hj]; exact hb⟩, h⟩
    by_cases hc : (ss.take i).any (spClash a) = true
    · rw [if_pos hc]
      obtain ⟨j, b, hj, hb, h⟩ := ht.1 hc
      constructor
      · intro h; cases h
      · rintro ⟨h1, _⟩
        have := h1 0 a rfl j b (by omega) hb
        rw [h] at this; cases this
    · rw [if_neg hc, ordGo_some r (i + 1) _ m, List.foldl_cons]
      constructor
      · rintro ⟨h1, h2⟩
        refine ⟨fun k x hk j b hj hb => ?_, h2⟩
        cases k with
        | zero =>
          rw [List.getElem?_cons_zero, Option.some.injEq] at hk
          subst hk
          by_cases hx : spClash a b = true
          · exact absurd (ht.2 ⟨j, b, by omega, hb, hx⟩) hc
          · simpa using hx
        | succ k => exact h1 k x (by simpa using hk) j b (by omega) hb
      · rintro ⟨h1, h2⟩
        exact ⟨fun k x hk j b hj hb => h1 (k + 1) x (by simpa using hk) j b (by omega) hb, h2⟩
theorem partOrd_iff {ss : List Span} {n : Int} : ∀ (r : List Bk) (i c : Nat), partOrd ss n i c r = true ↔ (∀ (k : Nat) (b : Bk), r[k]? = some b → partly b = true → ¬ (0 < (ss.getD (i + k) (0, 0)).2 ∧ (ss.getD (i + k) (0, 0)).2 < n)) ∧ c + r.countP partly ≤ 1
  | [], i, c => by unfold partOrd; simp
  | b :: r, i, c => by
    unfold partOrd
    rw [List.countP_cons]
    by_cases hb : partly b = true
    · rw [if_pos hb, if_pos hb]
      by_cases hx : 0 < (ss.getD i (0, 0)).2 ∧ (ss.getD i (0, 0)).2 < n
      · rw [if_pos hx]
        constructor
        · intro h; cases h
        · rintro ⟨h1, _⟩; exact absurd hx (h1 0 b rfl hb)
      · rw [if_neg hx, partOrd_iff r (i + 1) (c + 1)]
        constructor
        · rintro ⟨h1, h2⟩
          refine ⟨fun k x hk hp => ?_, by omega⟩
          cases k with
          | zero => exact hx
          | succ k => have := h1 k x (by simpa using hk) hp; rwa [show i + 1 + k = i + (k + 1) by omega] at this
        · rintro ⟨h1, h2⟩
          exact ⟨fun k x hk hp => by have := h1 (k + 1) x (by simpa using hk) hp; rwa [show i + (k + 1) = i + 1 + k by omega] at this, by omega⟩
    · rw [if_neg hb, if_neg hb, partOrd_iff r (i + 1) c]
      constructor
      · rintro ⟨h1, h2⟩
        refine ⟨fun k x hk hp => ?_, by omega⟩
        cases k with
        | zero => rw [List.getElem?_cons_zero, Option.some.injEq] at hk; subst hk; exact absurd hp hb
        | succ k => have := h1 k x (by simpa using hk) hp; rwa [show i + 1 + k = i + (k + 1) by omega] at this
      · rintro ⟨h1, h2⟩
        exact ⟨fun k x hk hp => by have := h1 (k + 1) x (by simpa using hk) hp; rwa [show i + (k + 1) = i + 1 + k by omega] at this, by omega⟩
theorem count_one {α : Type} {p : α → Bool} : ∀ (l : List α), l.countP p ≤ 1 ↔ ∀ (i j : Nat) (a b : α), i ≠ j → l[i]? = some a → l[j]? = some b → p a = true → p b = false
  | [] => by simp
  | x :: l => by
    rw [List.countP_cons]
    by_cases hx : p x = true
    · rw [if_pos hx]
      constructor
      · intro h i j a b hij ha hb hp
        have h0 : l.countP p = 0 := by omega
        rw [List.countP_eq_zero] at h0
        cases j with
        | zero =>
          cases i with
          | zero => exact absurd rfl hij
          | succ i => exact absurd hp (h0 a (List.mem_of_getElem? (by simpa using ha)))
        | succ j => simpa using h0 b (List.mem_of_getElem? (by simpa using hb))
      · intro h
        have h0 : l.countP p = 0 := by
          rw [List.countP_eq_zero]
          intro a ha
          obtain ⟨j, hj⟩ := List.mem_iff_getElem?.1 ha
          have := h 0 (j + 1) x a (by omega) rfl (by simpa using hj) hx
          rw [this]; simp
        omega
    · rw [if_neg hx, Nat.add_zero, count_one l]
      constructor
      · intro h i j a b hij ha hb hp
        cases i with
        | zero => rw [List.getElem?_cons_zero, Option.some.injEq] at ha; subst ha; exact absurd hp hx
        | succ i =>
          cases j with
          | zero => rw [List.getElem?_cons_zero, Option.some.injEq] at hb; subst hb; simpa using hx
          | succ j => exact h i j a b (by omega) (by simpa using ha) (by simpa using hb) hp
      · intro h i j a b hij ha hb hp
        exact h (i + 1) (j + 1) a b (by omega) (by simpa using ha) (by simpa using hb) hp
/-- the blocks were written one behind the other -/
structure Ord (f : List Bk) : Prop where
  apart : ∀ (i j : Nat) (a b : Bk), i ≠ j → f[i]? = some a → f[j]? = some b → 0 < most a → 0 < most b → ¬ (least a < most b ∧ least b < most a)
  begun : ∀ (i j : Nat) (a b : Bk), i ≠ j → f[i]? = some a → f[j]? = some b → partly a = true → partly b = false ∧ (0 < most a → most b ≤ most a)
theorem topSeq_le {M : Int} : ∀ {f : List Bk} {n : Int}, n ≤ M → (∀ b ∈ f, most b ≤ M) → f.foldl (fun n b => max n (most b)) n ≤ M
  | [], _, h, _ => h
  | b :: f, n, h, hb => by
    rw [List.foldl_cons]
    exact topSeq_le (by have := hb b (List.mem_cons_self ..); omega) (fun c hc => hb c (List.mem_cons_of_mem _ hc))
theorem le_topSeq0 : ∀ {f : List Bk} {n : Int}, n ≤ f.foldl (fun n b => max n (most b)) n
  | [], n => Int.le_refl n
  | b :: f, n => by
    rw [List.foldl_cons]
    have := le_topSeq0 (f := f) (n := max n (most b))
    omega
theorem le_topSeq {b : Bk} : ∀ {f : List Bk} {n : Int}, b ∈ f → most b ≤ f.foldl (fun n b => max n (most b)) n
  | a :: f, n, h => by
    rw [List.foldl_cons]
    rcases List.mem_cons.1 h with rfl | h
    · have := le_topSeq0 (f := f) (n := max n (most b))
      omega
    · exact le_topSeq h
theorem clash_iff {f : List Bk} (h : flashOk f = true) {i j : Nat} {a b : Bk} (hij : i ≠ j) (ha : f[i]? = some a) (hb : f[j]? = some b) : spClash (spn a) (spn b) = false ↔ ¬ (0 < most a ∧ 0 < most b ∧ least a < most b ∧ least b < most a) := by
  have pa := (bk_parts h (List.mem_of_getElem? ha)).2.2.2
  have pb := (bk_parts h (List.mem_of_getElem? hb)).2.2.2
  have hn := ((flashOk_iff f).1 h).2.2
  have key : spClash (spn a) (spn b) = true ↔ (0 < most a ∧ 0 < most b ∧ least a < most b ∧ least b < most a) := by
    unfold spClash spn
    simp only [Bool.and_eq_true, decide_eq_true_iff]
    constructor
    · rintro ⟨h1, h2, h3, h4⟩
      have e1 : least b ≠ most a := fun e => seqs_apart hn hij ha hb (most_mem pa h1) (e ▸ least_mem pb h2)
      have e2 : least a ≠ most b := fun e => seqs_apart hn hij ha hb (least_mem pa h1) (e ▸ most_mem pb h2)
      exact ⟨h1, h2, by omega, by omega⟩
    · rintro ⟨h1, h2, h3, h4⟩
      exact ⟨h1, h2, by omega, by omega⟩
  rw [← key]
  cases spClash (spn a) (spn b) <;> simp
theorem findOrderI_iff {f : List Bk} (h : flashOk f = true) : findOrderI f = true ↔ Ord f := by
  have hge : ∀ k b, f[k]? = some b → ((f.map spn).getD k (0, 0)).2 = most b := fun k b hb => by rw [List.getD_eq_getElem?_getD, List.getElem?_map, hb]; rfl
  have htop : ∀ n : Int, (f.map spn).foldl (fun n a => max n a.2) n = f.foldl (fun n b => max n (most b)) n := fun n => by rw [List.foldl_map]; rfl
  have hord : ∀ m : Int, ordGo (f.map spn) 0 0 (f.map spn) = some m ↔ (∀ (i j : Nat) (a b : Bk), i ≠ j → f[i]? = some a → f[j]? = some b → 0 < most a → 0 < most b → ¬ (least a < most b ∧ least b < most a)) ∧ m = topSeq f := fun m => by
    rw [ordGo_some, htop]
    unfold topSeq
    constructor
    · rintro ⟨h1, h2⟩
      refine ⟨fun i j a b hij ha hb p1 p2 hc => ?_, h2⟩
      rcases Nat.lt_or_gt_of_ne hij with hlt | hlt
      · have := h1 j (spn b) (by rw [List.getElem?_map, hb]; rfl) i (spn a) (by omega) (by rw [List.getElem?_map, ha]; rfl)
        exact (clash_iff h (Ne.symm hij) hb ha).1 this ⟨p2, p1, hc.2, hc.1⟩
      · have := h1 i (spn a) (by rw [List.getElem?_map, ha]; rfl) j (spn b) (by omega) (by rw [List.getElem?_map, hb]; rfl)
        exact (clash_iff h hij ha hb).1 this ⟨p1, p2, hc.1, hc.2⟩
    · rintro ⟨h1, h2⟩
      refine ⟨fun k x hk j y hj hy => ?_, h2⟩
      rw [List.getElem?_map] at hk hy
      obtain ⟨a, ha, rfl⟩ := Option.map_eq_some_iff.1 hk
      obtain ⟨b, hb, rfl⟩ := Option.map_eq_some_iff.1 hy
      exact (clash_iff h (by omega) ha hb).2 (fun ⟨p1, p2, p3⟩ => h1 k j a b (by omega) ha hb p1 p2 p3)
  unfold findOrderI ordI
  rw [if_pos h, spOf_eq h]
  have hpart : partOrd (f.map spn) (topSeq f) 0 0 f = true ↔ ∀ (i j : Nat) (a b : Bk), i ≠ j → f[i]? = some a → f[j]? = some b → partly a = true → partly b = false ∧ (0 < most a → most b ≤ most a) := by
    rw [partOrd_iff, Nat.zero_add, count_one]
    constructor
    · rintro ⟨h1, h2⟩ i j a b hij ha hb hp
      refine ⟨h2 i j a b hij ha hb hp, fun h0 => ?_⟩
      have := h1 i a ha hp
      rw [Nat.zero_add, hge i a ha] at this
      have h3 : most b ≤ topSeq f := le_topSeq (List.mem_of_getElem? hb)
      omega
    · intro h1
      refine ⟨fun k a ha hp => ?_, fun i j a b hij ha hb hp => (h1 i j a b hij ha hb hp).1⟩
      rw [Nat.zero_add, hge k a ha]
      rintro ⟨h2, h3⟩
      have : topSeq f ≤ most a := topSeq_le (by omega) (fun b hb => by
        obtain ⟨j, hj⟩ := List.mem_iff_getElem?.1 hb
        by_cases hkj : k = j
        · subst hkj
          rw [ha, Option.some.injEq] at hj
          rw [hj]; exact Int.le_refl _
        · exact (h1 k j a b hkj ha hj hp).2 h2)
      omega
  cases ho : ordGo (f.map spn) 0 0 (f.map spn) with
  | none =>
    constructor
    · intro h; cases h
    · intro hO
      have := (hord (topSeq f)).2 ⟨hO.apart, rfl⟩
      rw [ho] at this; cases this
  | some m =>
    obtain ⟨h1, rfl⟩ := (hord m).1 ho
    dsimp only
    rw [hpart]
    exact ⟨fun h2 => ⟨h1, h2⟩, fun h2 => h2.begun⟩
theorem rowOrd_iff {i : Nat} {a : Bk} : ∀ (r : List Bk) (k : Nat), rowOrd i a k r = true ↔ ∀ (j : Nat) (b : Bk), r[j]? = some b → bad1 i (k + j) a b = false ∧ bad2 i (k + j) a b = false
  | [], k => by simp [rowOrd]
  | b :: r, k => by
    unfold rowOrd
    by_cases hc : bad1 i k a b = true ∨ bad2 i k a b = true
    · rw [if_pos hc]
      constructor
      · intro h; cases h
      · intro h
        have := h 0 b rfl
        rw [Nat.add_zero] at this
        rcases hc with hc | hc
        · rw [this.1] at hc; cases hc
        · rw [this.2] at hc; cases hc
    · rw [if_neg hc, rowOrd_iff r (k + 1)]
      constructor
      · intro h j x hj
        cases j with
        | zero =>
          rw [List.getElem?_cons_zero, Option.some.injEq] at hj
          subst hj
          rw [Nat.add_zero]
          exact ⟨by simpa using fun e => hc (.inl e), by simpa using fun e => hc (.inr e)⟩
        | succ j => have := h j x (by simpa using hj); rwa [show k + 1 + j = k + (j + 1) by omega] at this
      · intro h j x hj
        have := h (j + 1) x (by simpa using hj)
        rwa [show k + (j + 1) = k + 1 + j by omega] at this
theorem allOrd_iff {f : List Bk} : ∀ (r : List Bk) (i : Nat), allOrd f i r = true ↔ ∀ (k : Nat) (a : Bk), r[k]? = some a → rowOrd (i + k) a 0 f = true
  | [], i => by simp [allOrd]
  | a :: r, i => by
    unfold allOrd
    by_cases hc : rowOrd i a 0 f = true
    · rw [if_pos hc, allOrd_iff r (i + 1)]
      constructor
      · intro h k x hk
        cases k with
        | zero =>
          rw [List.getElem?_cons_zero, Option.some.injEq] at hk
          subst hk
          exact hc
        | succ k => have := h k x (by simpa using hk); rwa [show i + 1 + k = i + (k + 1) by omega] at this
      · intro h k x hk
        have := h (k + 1) x (by simpa using hk)
        rwa [show i + (k + 1) = i + 1 + k by omega] at this
    · rw [if_neg hc]
      constructor
      · intro h; cases h
      · intro h; exact absurd (h 0 a rfl) hc
theorem findOrder_iff {f : List Bk} (h : flashOk f = true) : findOrder f = true ↔ Ord f := by
  unfold findOrder
  rw [if_pos h, allOrd_iff]
  constructor
  · intro hA
    have hb : ∀ (i j : Nat) (a b : Bk), f[i]? = some a → f[j]? = some b → bad1 i j a b = false ∧ bad2 i j a b = false := fun i j a b ha hb => by
      have h1 := (rowOrd_iff f 0).1 (by have := hA i a ha; rwa [Nat.zero_add] at this) j b hb
      rwa [Nat.zero_add] at h1
    refine ⟨fun i j a b hij ha hb' p1 p2 p3 => ?_, fun i j a b hij ha hb' hp => ?_⟩
    · have := (hb i j a b ha hb').1
      unfold bad1 at this
      simp [hij, p1, p2, p3.1, p3.2] at this
    · have := (hb i j a b ha hb').2
      unfold bad2 at this
      simp [hij, hp] at this
      exact this
  · intro hO k a ha
    rw [Nat.zero_add, rowOrd_iff]
    intro j b hb
    rw [Nat.zero_add]
    constructor
    · unfold bad1
      by_cases hij : k = j
      · simp [hij]
      · have := hO.apart k j a b hij ha hb
        simp [hij]
        omega
    · unfold bad2
      by_cases hij : k = j
      · simp [hij]
      · by_cases hp : partly a = true
        · have := hO.begun k j a b hij ha hb hp
          simp [hij, hp, this.1]
          omega
        · simp [hp]
theorem findOrder_eq (f : List Bk) : findOrderI f = findOrder f := by
  by_cases h : flashOk f = true
  · have := (findOrderI_iff h).trans (findOrder_iff h).symm
    cases h1 : findOrderI f <;> cases h2 : findOrder f <;> simp [h1, h2] at this ⊢
  · unfold findOrderI findOrder; rw [if_neg h, if_neg h]
theorem order_ok {f : List Bk} (h : findOrderI f = true) : flashOk f = true := by
  unfold findOrderI at h
  split at h
  · assumption
  · cases h
end Go.Proofs.Ytfkjhnfbajflaaa
