/- Plain laws: what is written where one is to write is in order; the eldest, wiped and written, is the eldest no more. -/
import Derived.Test.YtfkjhnfbajflaaaE7
namespace Go.Proofs.Ytfkjhnfbajflaaa
set_option linter.unusedVariables false
set_option linter.unusedSimpArgs false
theorem most_cases {b : Bk} (hp : ∀ p ∈ b.pages, pageOk p = true) : (most b = 0 ∧ seqsP b.pages = []) ∨ (0 < most b ∧ most b ∈ seqsP b.pages ∧ least b ∈ seqsP b.pages ∧ 0 < least b ∧ least b ≤ most b) := by
  cases hs : seqsP b.pages with
  | nil => exact .inl ⟨most_none hp hs, rfl⟩
  | cons q r =>
    have hq : q ∈ seqsP b.pages := by rw [hs]; exact List.mem_cons_self ..
    have h1 := (seq_pos hp hq).1
    have h2 := most_le hp hq
    have h0 : 0 < most b := by omega
    rw [← hs]
    exact .inr ⟨h0, most_mem hp h0, least_mem hp h0, least_most hp h0⟩
theorem span_same {b c : Bk} (hb : ∀ p ∈ b.pages, pageOk p = true) (hc : ∀ p ∈ c.pages, pageOk p = true) (h : seqsP c.pages = seqsP b.pages) : most c = most b ∧ (0 < most b → least c = least b) := by
  rcases most_cases hb with ⟨b1, b2⟩ | ⟨b1, b2, b3, b4, b5⟩ <;> rcases most_cases hc with ⟨c1, c2⟩ | ⟨c1, c2, c3, c4, c5⟩
  · exact ⟨by omega, fun h => by omega⟩
  · rw [h, b2] at c2; cases c2
  · rw [← h, c2] at b2; cases b2
  · have m1 := most_le hb (h ▸ c2)
    have m2 := most_le hc (h.symm ▸ b2)
    have l1 := least_le hb (h ▸ c3)
    have l2 := least_le hc (h.symm ▸ b3)
    exact ⟨by omega, fun _ => by omega⟩
theorem span_put {b c : Bk} (hb : ∀ p ∈ b.pages, pageOk p = true) (hc : ∀ p ∈ c.pages, pageOk p = true) {s : Int} (h : (seqsP c.pages).Perm ([s] ++ seqsP b.pages)) (hs : most b < s) :
    most c = s ∧ (0 < most b → least c = least b) ∧ (most b = 0 → least c = s) := by
  have hm : ∀ q, q ∈ seqsP c.pages ↔ q = s ∨ q ∈ seqsP b.pages := fun q => by rw [h.mem_iff]; simp
  have hsm := (hm s).2 (.inl rfl)
  have h1 := most_le hc hsm
  rcases most_cases hc with ⟨c1, c2⟩ | ⟨c1, c2, c3, c4, c5⟩
  · rw [c2] at hsm; cases hsm
  · have hcs : most c = s := by
      rcases (hm _).1 c2 with e | e
      · exact e
      · have := most_le hb e; omega
    refine ⟨hcs, fun h0 => ?_, fun h0 => ?_⟩
    · have l1 := least_mem hb h0
      have l2 := least_le hc ((hm _).2 (.inr l1))
      rcases (hm _).1 c3 with e | e
      · have := least_most hb h0; omega
      · have := least_le hb e; omega
    · rcases (hm _).1 c3 with e | e
      · exact e
      · have := most_le hb e; have := (seq_pos hb e).1; omega
theorem clean4_none {b : Bk} (h4 : b.pages.length = 4) (hc : clean b = 4) : seqsP b.pages = [] := by
  have hall : ∀ p ∈ b.pages, isClean p = true := by
    rw [← List.countP_eq_length]
    have : b.pages.countP isClean = clean b := rfl
    omega
  unfold seqsP
  rw [List.map_eq_nil_iff, List.filter_eq_nil_iff]
  intro p hp
  have := hall p hp
  unfold isClean at this
  simp at this
  simp [this]
theorem getElem?_set_cases {α : Type} {l : List α} {i j : Nat} {x y : α} (h : (l.set i x)[j]? = some y) : (j = i ∧ y = x) ∨ (j ≠ i ∧ l[j]? = some y) := by
  by_cases hj : j = i
  · subst hj
    have hl := (List.getElem?_eq_some_iff.1 h).1
    rw [List.getElem?_set_self (by simpa using hl)] at h
    cases h
    exact .inl ⟨rfl, rfl⟩
  · rw [List.getElem?_set_ne (by omega)] at h
    exact .inr ⟨hj, h⟩
/-- block i alone may have been begun -/
def Sole (f : List Bk) (i : Nat) : Prop := ∀ (j : Nat) (c : Bk), j ≠ i → f[j]? = some c → partly c = false
theorem Sole.set {f : List Bk} {i : Nat} (h : Sole f i) (b : Bk) : Sole (f.set i b) i := fun j c hj hc => by
  rcases getElem?_set_cases hc with ⟨e, _⟩ | ⟨_, hc⟩
  · exact absurd e hj
  · exact h j c hj hc
theorem clean_part {b : Bk} (h4 : b.pages.length = 4) (hc : clean b ≠ 0) : partly b = true ∨ clean b = 4 := by
  have := clean_le4 h4
  by_cases h : clean b = 4
  · exact .inr h
  · left; unfold partly; simp; omega
theorem ord_put {f : List Bk} (h : flashOk f = true) (hO : Ord f) {i : Nat} {b : Bk} (hb : f[i]? = some b) {r : Rc} (hr : recOk r = true) (torn : Bool) (hc : clean b ≠ 0) (hS : Sole f i) (hs : ∀ c ∈ f, most c < r.seq) :
    Ord (f.set i (putBk b r torn)) := by
  have hbm := List.mem_of_getElem? hb
  obtain ⟨l4, _, _, hbp⟩ := bk_parts h hbm
  obtain ⟨_, kp, k3, k4, k5⟩ := putBk_parts h hbm hr torn hc
  have hbs := hs b hbm
  have hbn := most_nn hbp
  -- what the new block spans
  have hx : (most (putBk b r torn) = most b ∧ (0 < most b → least (putBk b r torn) = least b)) ∨ (most (putBk b r torn) = r.seq ∧ (0 < most b → least (putBk b r torn) = least b) ∧ (most b = 0 → least (putBk b r torn) = r.seq)) := by
    cases torn
    · exact .inr (span_put hbp kp (k5 rfl) hbs)
    · exact .inl (span_same hbp kp (k4 rfl))
  -- if it held a record it was begun: no other has a greater number
  have hbeg : 0 < most b → ∀ (j : Nat) (c : Bk), j ≠ i → f[j]? = some c → most c ≤ most b := fun h0 j c hj hcj => by
    rcases clean_part l4 hc with hp | h4
    · exact (hO.begun i j b c (Ne.symm hj) hb hcj hp).2 h0
    · have := most_none hbp (clean4_none l4 h4); omega
  have key : ∀ (j : Nat) (c : Bk), j ≠ i → f[j]? = some c → 0 < most (putBk b r torn) → 0 < most c → ¬ (least (putBk b r torn) < most c) := fun j c hj hcj h1 h2 hlt => by
    have hcm := List.mem_of_getElem? hcj
    have hcp := (bk_parts h hcm).2.2.2
    have hcs := hs c hcm
    by_cases h0 : 0 < most b
    · have hle := hbeg h0 j c hj hcj
      have e1 : least (putBk b r torn) = least b := by
        rcases hx with hx | hx
        · exact hx.2 h0
        · exact hx.2.1 h0
      have e2 : most c ≠ most b := fun e => seqs_apart ((flashOk_iff f).1 h).2.2 hj hcj hb (most_mem hcp h2) (e ▸ most_mem hbp h0)
      have := least_most hcp h2
      exact hO.apart i j b c (Ne.symm hj) hb hcj h0 h2 ⟨by omega, by omega⟩
    · rcases hx with hx | hx
      · omega
      · have := hx.2.2 (by omega); omega
  refine ⟨fun i' j a c hij ha hcj p1 p2 p3 => ?_, fun i' j a c hij ha hcj hp => ?_⟩
  · rcases getElem?_set_cases ha with ⟨rfl, rfl⟩ | ⟨hi, ha'⟩
    · rcases getElem?_set_cases hcj with ⟨rfl, _⟩ | ⟨hj, hcj⟩
      · exact hij rfl
      · exact key j c hj hcj p1 p2 p3.1
    · rcases getElem?_set_cases hcj with ⟨rfl, rfl⟩ | ⟨hj, hcj⟩
      · exact key i' a hi ha' p2 p1 p3.2
      · exact hO.apart i' j a c hij ha' hcj p1 p2 p3
  · rcases getElem?_set_cases ha with ⟨rfl, rfl⟩ | ⟨hi, ha'⟩
    · rcases getElem?_set_cases hcj with ⟨rfl, _⟩ | ⟨hj, hcj⟩
      · exact absurd rfl hij
      · refine ⟨hS j c hj hcj, fun h0 => ?_⟩
        have hcs := hs c (List.mem_of_getElem? hcj)
        rcases hx with hx | hx
        · have := hbeg (by omega) j c hj hcj; omega
        · omega
    · rw [hS i' a hi ha'] at hp; cases hp
theorem top_lt {f : List Bk} {c : Bk} (h : c ∈ f) : most c < next f := by
  have := le_topSeq (n := 0) h
  unfold next topSeq
  omega
theorem open_sole {f : List Bk} (h : flashOk f = true) (hO : Ord f) (ho : (openI f).2 = true) : ∃ (m : Nat) (b : Bk), openI f = ((m : Int), true) ∧ f[m]? = some b ∧ clean b ≠ 0 ∧ Sole f m := by
  obtain ⟨m, b, h1, h2, h3⟩ := open_true ho
  refine ⟨m, b, Prod.ext h1 ho, h2, by omega, fun j c hj hc => ?_⟩
  by_cases hp : partly c = true
  · exfalso
    unfold openI at h1
    cases hg : partGo 0 f with
    | some k =>
      obtain ⟨n, d, e1, e2, e3⟩ := partGo_some hg
      rw [hg] at h1
      have : n = m := by dsimp only at h1; omega
      subst this
      have := (hO.begun j n c d hj hc e2 hp).1
      rw [this] at e3; cases e3
    | none =>
      have := partGo_none hg c (List.mem_of_getElem? hc)
      rw [hp] at this; cases this
  · simpa using hp
/-- the law of a step: written where one is to write, at the next number -/
theorem order_write {f : List Bk} (h : findOrderI f = true) {m : Int} (ho : openI f = (m, true)) {a : Int} (ha : 1 ≤ a ∧ a ≤ 6) {k v : Int} (hk : k = 1 ∨ k = 2) (hv : 0 ≤ v ∧ v ≤ 9) (torn : Bool) :
    (flashWrite f m ⟨k, next f, a, v⟩ torn).2 = false ∨ findOrderI (flashWrite f m ⟨k, next f, a, v⟩ torn).1 = true := by
  have hok := order_ok h
  have hO := (findOrderI_iff hok).1 h
  obtain ⟨n, b, h1, h2, h3, h4⟩ := open_sole hok hO (by rw [ho])
  have hmn : m = n := by rw [ho] at h1; exact congrArg Prod.fst h1
  subst hmn
  by_cases hr : recOk ⟨k, next f, a, v⟩ = true
  · have hnot : seqIn f (next f) ≠ true := fun e => by
      obtain ⟨c, hc, hq⟩ := mem_seqsF.1 (seqIn_iff.1 e)
      have := most_le (bk_parts hok hc).2.2.2 hq
      have := top_lt hc
      omega
    have hw := write_some hok h2 hr torn
    rw [if_neg (by rintro (e | e); exact h3 e; exact hnot e)] at hw
    rw [hw]
    right
    have hok' := put_ok4 hok h2 hr torn h3 hnot
    exact (findOrderI_iff hok').2 (ord_put hok hO h2 hr torn h3 h4 fun c hc => top_lt hc)
  · left
    unfold flashWrite
    rw [if_pos (by simp [hr])]
theorem seqsP_same (n : Nat) {p : Pg} (h : p.state ≠ 1) : seqsP (List.replicate n p) = [] := by
  unfold seqsP
  rw [List.map_eq_nil_iff, List.filter_eq_nil_iff]
  intro q hq
  rw [List.mem_replicate] at hq
  rw [hq.2]
  simpa using h
/-- a wiped block holds no number and was not begun -/
theorem wiped_none (torn : Bool) (n : Int) : most ⟨List.replicate 4 (if torn then ⟨2, rc0⟩ else pg0), n⟩ = 0 ∧ partly ⟨List.replicate 4 (if torn then ⟨2, rc0⟩ else pg0), n⟩ = false := by
  cases torn
  · exact ⟨rfl, rfl⟩
  · exact ⟨rfl, rfl⟩
theorem ord_wipe {f : List Bk} (hO : Ord f) (hp : ∀ b ∈ f, 0 ≤ most b) (i : Nat) (torn : Bool) : Ord (wipe f i torn) := by
  obtain ⟨z1, z2⟩ := wiped_none torn ((f.getD i zbk).worn + 1)
  unfold wipe
  refine ⟨fun i' j a c hij ha hcj p1 p2 p3 => ?_, fun i' j a c hij ha hcj hq => ?_⟩
  · rcases getElem?_set_cases ha with ⟨rfl, rfl⟩ | ⟨hi, ha'⟩
    · omega
    · rcases getElem?_set_cases hcj with ⟨rfl, rfl⟩ | ⟨hj, hcj⟩
      · omega
      · exact hO.apart i' j a c hij ha' hcj p1 p2 p3
  · rcases getElem?_set_cases ha with ⟨rfl, rfl⟩ | ⟨hi, ha'⟩
    · rw [z2] at hq; cases hq
    · rcases getElem?_set_cases hcj with ⟨rfl, rfl⟩ | ⟨hj, hcj⟩
      · exact ⟨z2, fun _ => by have := hp a (List.mem_of_getElem? ha'); omega⟩
      · exact hO.begun i' j a c hij ha' hcj hq
theorem order_wipe {f : List Bk} (h : findOrderI f = true) {i : Nat} (hi : i < 4) (torn : Bool) : (flashWipe f i torn).2 = false ∨ findOrderI (flashWipe f i torn).1 = true := by
  have hok := order_ok h
  have hO := (findOrderI_iff hok).1 h
  rw [flashWipe_eq hok hi torn]
  by_cases hw : (f.getD i zbk).worn = 200
  · rw [if_pos hw]; exact .inl rfl
  · rw [if_neg hw]
    have hok' := wiped_ok hok hi torn hw
    exact .inr ((findOrderI_iff hok').2 (ord_wipe hO (fun b hb => most_nn (bk_parts hok hb).2.2.2) i torn))
/-! ### the eldest -/
theorem hiGo_min {ss : List Span} : ∀ (r : List Span) (i old : Nat), ss.drop i = r → old < ss.length → (∀ (k : Nat) (s : Span), k < i → ss[k]? = some s → (ss.getD old (0, 0)).2 ≤ s.2) →
    ∀ (k : Nat) (s : Span), ss[k]? = some s → (ss.getD (hiGo ss i old r) (0, 0)).2 ≤ s.2
  | [], i, old, hd, ho, h, k, s, hk => by
    have : ss.length ≤ i := by
      have := congrArg List.length hd
      simp at this
      omega
    exact h k s (by have := (List.getElem?_eq_some_iff.1 hk).1; omega) hk
  | a :: r, i, old, hd, ho, h, k, s, hk => by
    have ha : ss[i]? = some a := by
      have : (ss.drop i)[0]? = some a := by rw [hd]; rfl
      simpa using this
    have hd' : ss.drop (i + 1) = r := by
      have : (ss.drop i).drop 1 = r := by rw [hd]; rfl
      simpa [List.drop_drop, Nat.add_comm] using this
    have hga : ss.getD i (0, 0) = a := by rw [List.getD_eq_getElem?_getD, ha]; rfl
    unfold hiGo
    by_cases hc : a.2 < (ss.getD old (0, 0)).2
    · rw [if_pos hc]
      refine hiGo_min r (i + 1) i hd' (List.getElem?_eq_some_iff.1 ha).1 (fun k s hk1 hks => ?_) k s hk
      rw [hga]
      by_cases hki : k = i
      · subst hki; rw [ha] at hks; cases hks; exact Int.le_refl _
      · have := h k s (by omega) hks; omega
    · rw [if_neg hc]
      refine hiGo_min r (i + 1) old hd' ho (fun k s hk1 hks => ?_) k s hk
      by_cases hki : k = i
      · subst hki; rw [ha] at hks; cases hks; omega
      · exact h k s (by omega) hks
theorem findOld_min {f : List Bk} (h : flashOk f = true) {m : Nat} (hm : findOld f = m) {b : Bk} (hb : f[m]? = some b) : ∀ c ∈ f, most b ≤ most c := by
  have hl := flashOk_len h
  unfold findOld at hm
  rw [if_pos h, spOf_eq h] at hm
  have hm' : hiGo (f.map spn) 0 0 (f.map spn) = m := by omega
  intro c hc
  obtain ⟨k, hk⟩ := List.mem_iff_getElem?.1 hc
  have := hiGo_min (ss := f.map spn) (f.map spn) 0 0 rfl (by simp; omega) (fun k s hk => by omega) k (spn c) (by rw [List.getElem?_map, hk]; rfl)
  rw [hm', List.getD_eq_getElem?_getD, List.getElem?_map, hb] at this
  exact this
/-! ### the eldest wiped and written full -/
/-- i records were written on block m, from number n on -/
structure OldSt (f : List Bk) (m : Nat) (n : Int) (i : Nat) (x : List Bk) : Prop where
  ok : flashOk x = true
  ord : Ord x
  sole : Sole x m
  same : ∀ j, j ≠ m → x[j]? = f[j]?
  at_ : ∃ b, x[m]? = some b ∧ clean b + i = 4 ∧ (0 < i → most b = n + i - 1)
  low : ∀ c ∈ x, most c < n + i
theorem old_begin {f : List Bk} (h : findOrderI f = true) (h0 : ∀ b ∈ f, clean b = 0) {m : Nat} (hm : m < 4) (hw : (f.getD m zbk).worn ≠ 200) : OldSt f m (next f) 0 (wipe f m false) := by
  have hok := order_ok h
  have hO := (findOrderI_iff hok).1 h
  have hl := flashOk_len hok
  have hok' := wiped_ok hok hm false hw
  have hnn := fun b hb => most_nn (bk_parts hok (b := b) hb).2.2.2
  refine ⟨hok', ord_wipe hO hnn m false, fun j c hj hc => ?_, fun j hj => wipe_ne hj false, ⟨_, wipe_at (by omega) false, rfl, fun h => by omega⟩, fun c hc => ?_⟩
  · rw [wipe_ne hj] at hc
    unfold partly
    rw [h0 c (List.mem_of_getElem? hc)]; rfl
  · unfold wipe at hc
    rcases mem_set hc with hc | rfl
    · have := top_lt hc; omega
    · have := (wiped_none false ((f.getD m zbk).worn + 1)).1
      rw [this]
      obtain ⟨b, hb⟩ := get_some (l := f) (k := 0) (by omega)
      have h1 := top_lt (List.mem_of_getElem? hb)
      have h2 := hnn b (List.mem_of_getElem? hb)
      omega
theorem old_step {f x : List Bk} {m i : Nat} {n : Int} (h : OldSt f m n i x) (hi : i < 4) (h1 : 1 ≤ n) (hn : n + i ≤ 600) :
    ∃ y, flashWrite x m ⟨1, n + i, 1 + i, 0⟩ false = (y, true) ∧ OldSt f m n (i + 1) y := by
  obtain ⟨b, hb, hc, _⟩ := h.at_
  have hr : recOk ⟨1, n + i, 1 + i, 0⟩ = true := by
    unfold recOk kindB addrB valB
    simp
    omega
  have hnot : seqIn x (n + i) ≠ true := fun e => by
    obtain ⟨c, hc, hq⟩ := mem_seqsF.1 (seqIn_iff.1 e)
    have := most_le (bk_parts h.ok hc).2.2.2 hq
    have := h.low c hc
    omega
  have hcb : clean b ≠ 0 := by omega
  have hw := write_some h.ok hb hr false
  rw [if_neg (by rintro (e | e); exact hcb e; exact hnot e)] at hw
  have hok' := put_ok4 h.ok hb hr false hcb hnot
  have hbm := List.mem_of_getElem? hb
  obtain ⟨_, kp, k3, _, k5⟩ := putBk_parts h.ok hbm hr false hcb
  have hsp := span_put (bk_parts h.ok hbm).2.2.2 kp (k5 rfl) (h.low b hbm)
  refine ⟨_, hw, hok', ord_put h.ok h.ord hb hr false hcb h.sole h.low, h.sole.set _, fun j hj => ?_, ⟨putBk b _ false, List.getElem?_set_self (List.getElem?_eq_some_iff.1 hb).1, by omega, fun _ => ?_⟩, fun c hc => ?_⟩
  · rw [List.getElem?_set_ne (by omega)]; exact h.same j hj
  · rw [hsp.1]; dsimp only; omega
  · rcases mem_set hc with hc | rfl
    · have := h.low c hc; omega
    · rw [hsp.1]; dsimp only; omega
theorem old_end {f x : List Bk} {m : Nat} {n : Int} (h : OldSt f m n 4 x) (hm : m < 4) (hf : flashOk f = true) (hn : ∀ c ∈ f, most c < n) : findOld x ≠ m ∧ findOrderI x = true := by
  refine ⟨fun e => ?_, (findOrderI_iff h.ok).2 h.ord⟩
  obtain ⟨b, hb, _, hb2⟩ := h.at_
  have h4 := flashOk_len hf
  have hx4 := flashOk_len h.ok
  obtain ⟨j, hj, hjm⟩ : ∃ j, j < 4 ∧ j ≠ m := by
    by_cases h0 : m = 0
    · exact ⟨1, by omega, by omega⟩
    · exact ⟨0, by omega, by omega⟩
  obtain ⟨c, hc⟩ := get_some (l := x) (k := j) (by omega)
  have h1 := findOld_min h.ok e hb c (List.mem_of_getElem? hc)
  rw [h.same j hjm] at hc
  have h2 := hn c (List.mem_of_getElem? hc)
  have h3 := hb2 (by omega)
  omega
end Go.Proofs.Ytfkjhnfbajflaaa
