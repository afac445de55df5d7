/- What the laws' walks share: words, plain laws, and the walks of functions, part 5. -/
import Derived.Laws.EntriesVeiled
import Derived.Laws.ResultCell
import Derived.Test.YtbekihiiildgmaaU4
namespace Go.Proofs.Ytbekihiiildgmaa
set_option linter.unusedVariables false
set_option linter.unusedSimpArgs false
theorem most_cases {b : Bk} (hp : ∀ p ∈ b.pages, pageOk p = true) : (most b = 0 ∧ seqsP b.pages = []) ∨ (0 < most b ∧ most b ∈ seqsP b.pages ∧ least b ∈ seqsP b.pages ∧ 0 < least b ∧ least b ≤ most b) := by
  cases hs : seqsP b.pages with
  | nil => exact .inl ⟨most_none hp hs, rfl⟩
  | cons q r =>
    have hq : q ∈ seqsP b.pages := by rw [hs]; exact List.mem_cons_self ..
    have h1 := (seq_pos hp hq).1
    have h2 := most_le hp hq
    have h0 : 0 < most b := by omega
    rw [← hs]
    exact .inr ⟨h0, most_mem hp h0, least_mem hp h0, least_most hp h0⟩
theorem span_same {b c : Bk} (hb : ∀ p ∈ b.pages, pageOk p = true) (hc : ∀ p ∈ c.pages, pageOk p = true) (h : seqsP c.pages = seqsP b.pages) : most c = most b ∧ (0 < most b → least c = least b) := by
  rcases most_cases hb with ⟨b1, b2⟩ | ⟨b1, b2, b3, b4, b5⟩ <;> rcases most_cases hc with ⟨c1, c2⟩ | ⟨c1, c2, c3, c4, c5⟩
  · exact ⟨by omega, fun h => by omega⟩
  · rw [h, b2] at c2; cases c2
  · rw [← h, c2] at b2; cases b2
  · have m1 := most_le hb (h ▸ c2)
    have m2 := most_le hc (h.symm ▸ b2)
    have l1 := least_le hb (h ▸ c3)
    have l2 := least_le hc (h.symm ▸ b3)
    exact ⟨by omega, fun _ => by omega⟩
theorem span_put {b c : Bk} (hb : ∀ p ∈ b.pages, pageOk p = true) (hc : ∀ p ∈ c.pages, pageOk p = true) {s : Int} (h : (seqsP c.pages).Perm ([s] ++ seqsP b.pages)) (hs : most b < s) :
    most c = s ∧ (0 < most b → least c = least b) ∧ (most b = 0 → least c = s) := by
  have hm : ∀ q, q ∈ seqsP c.pages ↔ q = s ∨ q ∈ seqsP b.pages := fun q => by rw [h.mem_iff]; simp
  have hsm := (hm s).2 (.inl rfl)
  have h1 := most_le hc hsm
  rcases most_cases hc with ⟨c1, c2⟩ | ⟨c1, c2, c3, c4, c5⟩
  · rw [c2] at hsm; cases hsm
  · have hcs : most c = s := by
      rcases (hm _).1 c2 with e | e
      · exact e
      · have := most_le hb e; omega
    refine ⟨hcs, fun h0 => ?_, fun h0 => ?_⟩
    · have l1 := least_mem hb h0
      have l2 := least_le hc ((hm _).2 (.inr l1))
      rcases (hm _).1 c3 with e | e
      · have := least_most hb h0; omega
      · have := least_le hb e; omega
    · rcases (hm _).1 c3 with e | e
      · exact e
      · have := most_le hb e; have := (seq_pos hb e).1; omega
theorem clean4_none {b : Bk} (h4 : b.pages.length = 4) (hc : clean b = 4) : seqsP b.pages = [] := by
  have hall : ∀ p ∈ b.pages, isClean p = true := by
    rw [← List.countP_eq_length]
    have : b.pages.countP isClean = clean b := rfl
    omega
  unfold seqsP
  rw [List.map_eq_nil_iff, List.filter_eq_nil_iff]
  intro p hp
  have := hall p hp
  unfold isClean at this
  simp at this
  simp [this]
theorem getElem?_set_cases {α : Type} {l : List α} {i j : Nat} {x y : α} (h : (l.set i x)[j]? = some y) : (j = i ∧ y = x) ∨ (j ≠ i ∧ l[j]? = some y) := by
  by_cases hj : j = i
  · subst hj
    have hl := (List.getElem?_eq_some_iff.1 h).1
    rw [List.getElem?_set_self (by simpa using hl)] at h
    cases h
    exact .inl ⟨rfl, rfl⟩
  · rw [List.getElem?_set_ne (by omega)] at h
    exact .inr ⟨hj, h⟩
/-- block i alone may have been begun -/
def Sole (f : List Bk) (i : Nat) : Prop := ∀ (j : Nat) (c : Bk), j ≠ i → f[j]? = some c → partly c = false
theorem Sole.set {f : List Bk} {i : Nat} (h : Sole f i) (b : Bk) : Sole (f.set i b) i := fun j c hj hc => by
  rcases getElem?_set_cases hc with ⟨e, _⟩ | ⟨_, hc⟩
  · exact absurd e hj
  · exact h j c hj hc
theorem clean_part {b : Bk} (h4 : b.pages.length = 4) (hc : clean b ≠ 0) : partly b = true ∨ clean b = 4 := by
  have := clean_le4 h4
  by_cases h : clean b = 4
  · exact .inr h
  · left; unfold partly; simp; omega
theorem ord_put {f : List Bk} (h : flashOk f = true) (hO : Ord f) {i : Nat} {b : Bk} (hb : f[i]? = some b) {r : Rc} (hr : recOk r = true) (torn : Bool) (hc : clean b ≠ 0) (hS : Sole f i) (hs : ∀ c ∈ f, most c < r.seq) :
    Ord (f.set i (putBk b r torn)) := by
  have hbm := List.mem_of_getElem? hb
  obtain ⟨l4, _, _, hbp⟩ := bk_parts h hbm
  obtain ⟨_, kp, k3, k4, k5⟩ := putBk_parts h hbm hr torn hc
  have hbs := hs b hbm
  have hbn := most_nn hbp
  -- what the new block spans
  have hx : (most (putBk b r torn) = most b ∧ (0 < most b → least (putBk b r torn) = least b)) ∨ (most (putBk b r torn) = r.seq ∧ (0 < most b → least (putBk b r torn) = least b) ∧ (most b = 0 → least (putBk b r torn) = r.seq)) := by
    cases torn
    · exact .inr (span_put hbp kp (k5 rfl) hbs)
    · exact .inl (span_same hbp kp (k4 rfl))
  -- if it held a record it was begun: no other has a greater number
  have hbeg : 0 < most b → ∀ (j : Nat) (c : Bk), j ≠ i → f[j]? = some c → most c ≤ most b := fun h0 j c hj hcj => by
    rcases clean_part l4 hc with hp | h4
    · exact (hO.begun i j b c (Ne.symm hj) hb hcj hp).2 h0
    · have := most_none hbp (clean4_none l4 h4); omega
  have key : ∀ (j : Nat) (c : Bk), j ≠ i → f[j]? = some c → 0 < most (putBk b r torn) → 0 < most c → ¬ (least (putBk b r torn) < most c) := fun j c hj hcj h1 h2 hlt => by
    have hcm := List.mem_of_getElem? hcj
    have hcp := (bk_parts h hcm).2.2.2
    have hcs := hs c hcm
    by_cases h0 : 0 < most b
    · have hle := hbeg h0 j c hj hcj
      have e1 : least (putBk b r torn) = least b := by
        rcases hx with hx | hx
        · exact hx.2 h0
        · exact hx.2.1 h0
      have e2 : most c ≠ most b := fun e => seqs_apart ((flashOk_iff f).1 h).2.2 hj hcj hb (most_mem hcp h2) (e ▸ most_mem hbp h0)
      have := least_most hcp h2
      exact hO.apart i j b c (Ne.symm hj) hb hcj h0 h2 ⟨by omega, by omega⟩
    · rcases hx with hx | hx
      · omega
      · have := hx.2.2 (by omega); omega
  refine ⟨fun i' j a c hij ha hcj p1 p2 p3 => ?_, fun i' j a c hij ha hcj hp => ?_⟩
  · rcases getElem?_set_cases ha with ⟨rfl, rfl⟩ | ⟨hi, ha'⟩
    · rcases getElem?_set_cases hcj with ⟨rfl, _⟩ | ⟨hj, hcj⟩
      · exact hij rfl
      · exact key j c hj hcj p1 p2 p3.1
    · rcases getElem?_set_cases hcj with ⟨rfl, rfl⟩ | ⟨hj, hcj⟩
      · exact key i' a hi ha' p2 p1 p3.2
      · exact hO.apart i' j a c hij ha' hcj p1 p2 p3
  · rcases getElem?_set_cases ha with ⟨rfl, rfl⟩ | ⟨hi, ha'⟩
    · rcases getElem?_set_cases hcj with ⟨rfl, _⟩ | ⟨hj, hcj⟩
      · exact absurd rfl hij
      · refine ⟨hS j c hj hcj, fun h0 => ?_⟩
        have hcs := hs c (List.mem_of_getElem? hcj)
        rcases hx with hx | hx
        · have := hbeg (by omega) j c hj hcj; omega
        · omega
    · rw [hS i' a hi ha'] at hp; cases hp
theorem top_lt {f : List Bk} {c : Bk} (h : c ∈ f) : most c < next f := by
  have := le_topSeq (n := 0) h
  unfold next topSeq
  omega
theorem open_sole {f : List Bk} (h : flashOk f = true) (hO : Ord f) (ho : (openI f).2 = true) : ∃ (m : Nat) (b : Bk), openI f = ((m : Int), true) ∧ f[m]? = some b ∧ clean b ≠ 0 ∧ Sole f m := by
  obtain ⟨m, b, h1, h2, h3⟩ := open_true ho
  refine ⟨m, b, Prod.ext h1 ho, h2, by omega, fun j c hj hc => ?_⟩
  by_cases hp : partly c = true
  · exfalso
    unfold openI at h1
    cases hg : partGo 0 f with
    | some k =>
      obtain ⟨n, d, e1, e2, e3⟩ := partGo_some hg
      rw [hg] at h1
      have : n = m := by dsimp only at h1; omega
      subst this
      have := (hO.begun j n c d hj hc e2 hp).1
      rw [this] at e3; cases e3
    | none =>
      have := partGo_none hg c (List.mem_of_getElem? hc)
      rw [hp] at this; cases this
  · simpa using hp
/-- a wiped block holds no number and was not begun -/
theorem wiped_none (torn : Bool) (n : Int) : most ⟨List.replicate 4 (if torn then ⟨2, rc0⟩ else pg0), n⟩ = 0 ∧ partly ⟨List.replicate 4 (if torn then ⟨2, rc0⟩ else pg0), n⟩ = false := by
  cases torn
  · exact ⟨rfl, rfl⟩
  · exact ⟨rfl, rfl⟩
theorem ord_wipe {f : List Bk} (hO : Ord f) (hp : ∀ b ∈ f, 0 ≤ most b) (i : Nat) (torn : Bool) : Ord (wipe f i torn) := by
  obtain ⟨z1, z2⟩ := wiped_none torn ((f.getD i zbk).worn + 1)
  unfold wipe
  refine ⟨fun i' j a c hij ha hcj p1 p2 p3 => ?_, fun i' j a c hij ha hcj hq => ?_⟩
  · rcases getElem?_set_cases ha with ⟨rfl, rfl⟩ | ⟨hi, ha'⟩
    · omega
    · rcases getElem?_set_cases hcj with ⟨rfl, rfl⟩ | ⟨hj, hcj⟩
      · omega
      · exact hO.apart i' j a c hij ha' hcj p1 p2 p3
  · rcases getElem?_set_cases ha with ⟨rfl, rfl⟩ | ⟨hi, ha'⟩
    · rw [z2] at hq; cases hq
    · rcases getElem?_set_cases hcj with ⟨rfl, rfl⟩ | ⟨hj, hcj⟩
      · exact ⟨z2, fun _ => by have := hp a (List.mem_of_getElem? ha'); omega⟩
      · exact hO.begun i' j a c hij ha' hcj hq
/-! ### the eldest -/
theorem hiGo_min {ss : List Span} : ∀ (r : List Span) (i old : Nat), ss.drop i = r → old < ss.length → (∀ (k : Nat) (s : Span), k < i → ss[k]? = some s → (ss.getD old (0, 0)).2 ≤ s.2) →
    ∀ (k : Nat) (s : Span), ss[k]? = some s → (ss.getD (hiGo ss i old r) (0, 0)).2 ≤ s.2
  | [], i, old, hd, ho, h, k, s, hk => by
    have : ss.length ≤ i := by
      have := congrArg List.length hd
      simp at this
      omega
    exact h k s (by have := (List.getElem?_eq_some_iff.1 hk).1; omega) hk
  | a :: r, i, old, hd, ho, h, k, s, hk => by
    have ha : ss[i]? = some a := by
      have : (ss.drop i)[0]? = some a := by rw [hd]; rfl
      simpa using this
    have hd' : ss.drop (i + 1) = r := by
      have : (ss.drop i).drop 1 = r := by rw [hd]; rfl
      simpa [List.drop_drop, Nat.add_comm] using this
    have hga : ss.getD i (0, 0) = a := by rw [List.getD_eq_getElem?_getD, ha]; rfl
    unfold hiGo
    by_cases hc : a.2 < (ss.getD old (0, 0)).2
    · rw [if_pos hc]
      refine hiGo_min r (i + 1) i hd' (List.getElem?_eq_some_iff.1 ha).1 (fun k s hk1 hks => ?_) k s hk
      rw [hga]
      by_cases hki : k = i
      · subst hki; rw [ha] at hks; cases hks; exact Int.le_refl _
      · have := h k s (by omega) hks; omega
    · rw [if_neg hc]
      refine hiGo_min r (i + 1) old hd' ho (fun k s hk1 hks => ?_) k s hk
      by_cases hki : k = i
      · subst hki; rw [ha] at hks; cases hks; omega
      · exact h k s (by omega) hks
theorem findOld_min {f : List Bk} (h : flashOk f = true) {m : Nat} (hm : findOld f = m) {b : Bk} (hb : f[m]? = some b) : ∀ c ∈ f, most b ≤ most c := by
  have hl := flashOk_len h
  unfold findOld at hm
  rw [if_pos h, spOf_eq h] at hm
  have hm' : hiGo (f.map spn) 0 0 (f.map spn) = m := by omega
  intro c hc
  obtain ⟨k, hk⟩ := List.mem_iff_getElem?.1 hc
  have := hiGo_min (ss := f.map spn) (f.map spn) 0 0 rfl (by simp; omega) (fun k s hk => by omega) k (spn c) (by rw [List.getElem?_map, hk]; rfl)
  rw [hm', List.getD_eq_getElem?_getD, List.getElem?_map, hb] at this
  exact this
/-! ### the eldest wiped and written full -/
end Go.Proofs.Ytbekihiiildgmaa
namespace Go.Proofs.Ytbekihiiildgmaa
set_option linter.unusedVariables false
set_option linter.unusedSimpArgs false
/-- r is the record of a written page -/
def Wr (b : Bk) (r : Rc) : Prop := ∃ p ∈ b.pages, p.state = 1 ∧ p.rc = r
def Has (f : List Bk) (r : Rc) : Prop := ∃ b ∈ f, Wr b r
theorem wr_seq {b : Bk} {r : Rc} (h : Wr b r) : r.seq ∈ seqsP b.pages := by
  obtain ⟨p, hp, h1, rfl⟩ := h
  exact mem_seqsP.2 ⟨p, hp, h1, rfl⟩
theorem has_ok {f : List Bk} (h : flashOk f = true) {r : Rc} (hr : Has f r) : recOk r = true := by
  obtain ⟨b, hb, p, hp, h1, rfl⟩ := hr
  exact rec_of_written ((bk_parts h hb).2.2.2 p hp) h1
theorem has_pos {f : List Bk} (h : flashOk f = true) {r : Rc} (hr : Has f r) : 1 ≤ r.seq := by
  have := recOk_addr (has_ok h hr); omega
theorem lastPs_spec (a : Int) : ∀ (ps : List Pg) (o : Rc), o.seq ≤ (lastPs a o ps).seq ∧ (∀ p ∈ ps, p.state = 1 → p.rc.addr = a → p.rc.seq ≤ (lastPs a o ps).seq) ∧ (lastPs a o ps = o ∨ ∃ p ∈ ps, p.state = 1 ∧ p.rc.addr = a ∧ p.rc = lastPs a o ps)
  | [], o => ⟨Int.le_refl _, fun p hp => (by cases hp), .inl rfl⟩
  | p :: ps, o => by
    obtain ⟨i1, i2, i3⟩ := lastPs_spec a ps (lastStep a o p)
    have he : lastPs a o (p :: ps) = lastPs a (lastStep a o p) ps := rfl
    rw [he]
    have hs : lastStep a o p = o ∨ (p.state = 1 ∧ p.rc.addr = a ∧ o.seq < p.rc.seq ∧ lastStep a o p = p.rc) := by
      unfold lastStep
      split
      · rename_i h; exact .inr ⟨h.1, h.2.1, h.2.2, rfl⟩
      · exact .inl rfl
    have hle : o.seq ≤ (lastStep a o p).seq := by
      rcases hs with hs | ⟨_, _, h3, hs⟩
      · rw [hs]; exact Int.le_refl _
      · rw [hs]; omega
    refine ⟨by omega, fun q hq h1 h2 => ?_, ?_⟩
    · rcases List.mem_cons.1 hq with rfl | hq
      · have : q.rc.seq ≤ (lastStep a o q).seq := by
          unfold lastStep
          split
          · exact Int.le_refl _
          · rename_i hn
            have : ¬ o.seq < q.rc.seq := fun e => hn ⟨h1, h2, e⟩
            omega
        omega
      · exact i2 q hq h1 h2
    · rcases i3 with i3 | ⟨q, hq, q1, q2, q3⟩
      · rcases hs with hs | ⟨h1, h2, _, hs⟩
        · exact .inl (i3.trans hs)
        · exact .inr ⟨p, List.mem_cons_self .., h1, h2, (i3.trans hs).symm⟩
      · exact .inr ⟨q, List.mem_cons_of_mem _ hq, q1, q2, q3⟩
theorem lastF_spec (a : Int) : ∀ (f : List Bk) (o : Rc), o.seq ≤ (f.foldl (fun o b => lastPs a o b.pages) o).seq ∧ (∀ r, Has f r → r.addr = a → r.seq ≤ (f.foldl (fun o b => lastPs a o b.pages) o).seq) ∧
    (f.foldl (fun o b => lastPs a o b.pages) o = o ∨ (Has f (f.foldl (fun o b => lastPs a o b.pages) o) ∧ (f.foldl (fun o b => lastPs a o b.pages) o).addr = a))
  | [], o => ⟨Int.le_refl _, fun r hr => (by obtain ⟨b, hb, _⟩ := hr; cases hb), .inl rfl⟩
  | b :: f, o => by
    obtain ⟨p1, p2, p3⟩ := lastPs_spec a b.pages o
    obtain ⟨i1, i2, i3⟩ := lastF_spec a f (lastPs a o b.pages)
    rw [List.foldl_cons]
    refine ⟨by omega, fun r hr h => ?_, ?_⟩
    · obtain ⟨c, hc, p, hp, q1, rfl⟩ := hr
      rcases List.mem_cons.1 hc with rfl | hc
      · have := p2 p hp q1 h; omega
      · exact i2 p.rc ⟨c, hc, p, hp, q1, rfl⟩ h
    · rcases i3 with i3 | ⟨⟨c, hc, hw⟩, i4⟩
      · rcases p3 with p3 | ⟨p, hp, q1, q2, q3⟩
        · exact .inl (i3.trans p3)
        · refine .inr ⟨⟨b, List.mem_cons_self .., p, hp, q1, ?_⟩, ?_⟩
          · rw [i3]; exact q3
          · rw [i3, ← q3]; exact q2
      · exact .inr ⟨⟨c, List.mem_cons_of_mem _ hc, hw⟩, i4⟩
theorem last_max {f : List Bk} {r : Rc} (hr : Has f r) : r.seq ≤ (last f r.addr).seq := (lastF_spec r.addr f rc0).2.1 r hr rfl
theorem last_has (f : List Bk) (a : Int) : last f a = rc0 ∨ (Has f (last f a) ∧ (last f a).addr = a) := (lastF_spec a f rc0).2.2
theorem last_pos {f : List Bk} {a : Int} (h : 0 < (last f a).seq) : Has f (last f a) ∧ (last f a).addr = a := by
  rcases last_has f a with e | e
  · rw [e] at h; exact absurd h (by decide)
  · exact e
theorem nodup_inj {α β : Type} {g : α → β} : ∀ {l : List α}, (l.map g).Nodup → ∀ {x y : α}, x ∈ l → y ∈ l → g x = g y → x = y
  | [], _, x, y, hx, _, _ => by cases hx
  | a :: l, hn, x, y, hx, hy, he => by
    rw [List.map_cons, List.nodup_cons] at hn
    rcases List.mem_cons.1 hx with ex | hx' <;> rcases List.mem_cons.1 hy with ey | hy'
    · rw [ex, ey]
    · rw [ex] at he
      exact absurd (List.mem_map.2 ⟨y, hy', he.symm⟩) hn.1
    · rw [ey] at he
      exact absurd (List.mem_map.2 ⟨x, hx', he⟩) hn.1
    · exact nodup_inj hn.2 hx' hy' he
theorem seqs_nodup : ∀ {f : List Bk}, (seqsF f).Nodup → ∀ b ∈ f, (seqsP b.pages).Nodup
  | [], _, b, hb => by cases hb
  | c :: f, hn, b, hb => by
    rw [show seqsF (c :: f) = seqsP c.pages ++ seqsF f from by simp [seqsF], List.nodup_append] at hn
    rcases List.mem_cons.1 hb with rfl | hb
    · exact hn.1
    · exact seqs_nodup hn.2.1 b hb
theorem wr_inj {f : List Bk} (h : flashOk f = true) {i j : Nat} {b c : Bk} {r q : Rc} (hb : f[i]? = some b) (hc : f[j]? = some c) (hr : Wr b r) (hq : Wr c q) (he : r.seq = q.seq) : i = j ∧ r = q := by
  have hn := ((flashOk_iff f).1 h).2.2
  have hij : i = j := by
    by_cases hij : i = j
    · exact hij
    · exact absurd (he ▸ wr_seq hq) (seqs_apart hn hij hb hc (wr_seq hr))
  subst hij
  rw [hb, Option.some.injEq] at hc
  subst hc
  refine ⟨rfl, ?_⟩
  obtain ⟨p, hp, p1, rfl⟩ := hr
  obtain ⟨p', hp', p1', rfl⟩ := hq
  have hnb := seqs_nodup hn b (List.mem_of_getElem? hb)
  unfold seqsP at hnb
  have := nodup_inj hnb (List.mem_filter.2 ⟨hp, by simpa using p1⟩) (List.mem_filter.2 ⟨hp', by simpa using p1'⟩) he
  rw [this]
theorem has_inj {f : List Bk} (h : flashOk f = true) {r q : Rc} (hr : Has f r) (hq : Has f q) (he : r.seq = q.seq) : r = q := by
  obtain ⟨b, hb, hr⟩ := hr
  obtain ⟨c, hc, hq⟩ := hq
  obtain ⟨i, hi⟩ := List.mem_iff_getElem?.1 hb
  obtain ⟨j, hj⟩ := List.mem_iff_getElem?.1 hc
  exact (wr_inj h hi hj hr hq he).2
theorem last_eq {f : List Bk} (h : flashOk f = true) {r : Rc} (hr : Has f r) (hm : ∀ q, Has f q → q.addr = r.addr → q.seq ≤ r.seq) : last f r.addr = r := by
  have h1 := last_max hr
  have h2 := has_pos h hr
  obtain ⟨h3, h4⟩ := last_pos (f := f) (a := r.addr) (by omega)
  have h5 := hm _ h3 h4
  exact has_inj h h3 hr (by omega)
theorem last_noneB {f : List Bk} {a : Int} (h : ∀ r, Has f r → r.addr ≠ a) : last f a = rc0 := by
  rcases last_has f a with e | e
  · exact e
  · exact absurd e.2 (h _ e.1)
theorem last_congr {f g : List Bk} (hf : flashOk f = true) (hg : flashOk g = true) {a : Int} (h : ∀ r, r.addr = a → (Has f r ↔ Has g r)) : last g a = last f a := by
  rcases last_has f a with e | ⟨e1, e2⟩
  · rw [e]
    refine last_noneB fun r hr ha => ?_
    have h1 := (h r ha).2 hr
    have h2 := last_max h1
    have h3 := has_pos hf h1
    rw [ha, e] at h2
    have : rc0.seq = 0 := rfl
    omega
  · have h1 := (h _ e2).1 e1
    have := last_eq hg h1 (fun q hq ha => by
      have h3 := (h q (ha.trans e2)).2 hq
      have := last_max h3
      rwa [ha, e2] at this)
    rwa [e2] at this
/-! ### a record written -/
theorem wr_put {f : List Bk} (h : flashOk f = true) {b : Bk} (hb : b ∈ f) {r : Rc} (hr : recOk r = true) (torn : Bool) (hc : clean b ≠ 0) (x : Rc) : Wr (putBk b r torn) x ↔ (torn = false ∧ x = r) ∨ Wr b x := by
  obtain ⟨l4, _, hs, hbp⟩ := bk_parts h hb
  obtain ⟨_, ⟨p, hp, hp0⟩, _⟩ := shape_put l4 hs (putPg_ok hr torn).2 hc
  have hk := (List.getElem?_eq_some_iff.1 hp).1
  unfold putBk
  constructor
  · rintro ⟨q, hq, q1, rfl⟩
    dsimp only at hq
    obtain ⟨j, hj⟩ := List.mem_iff_getElem?.1 hq
    rcases getElem?_set_cases hj with ⟨_, rfl⟩ | ⟨_, hj⟩
    · cases torn
      · exact .inl ⟨rfl, rfl⟩
      · exact absurd q1 (by show ¬ (2 : Int) = 1; decide)
    · exact .inr ⟨q, List.mem_of_getElem? hj, q1, rfl⟩
  · rintro (⟨rfl, rfl⟩ | ⟨q, hq, q1, rfl⟩)
    · exact ⟨⟨1, x⟩, List.mem_iff_getElem?.2 ⟨_, List.getElem?_set_self hk⟩, rfl, rfl⟩
    · obtain ⟨j, hj⟩ := List.mem_iff_getElem?.1 hq
      have hne : 4 - b.pages.countP isClean ≠ j := fun e => by
        rw [← e, hp, Option.some.injEq] at hj
        rw [hj] at hp0
        omega
      exact ⟨q, List.mem_iff_getElem?.2 ⟨j, by show (b.pages.set (4 - b.pages.countP isClean) (putPg r torn))[j]? = _; rw [List.getElem?_set_ne hne]; exact hj⟩, q1, rfl⟩
theorem has_put {f : List Bk} (h : flashOk f = true) {i : Nat} {b : Bk} (hb : f[i]? = some b) {r : Rc} (hr : recOk r = true) (torn : Bool) (hc : clean b ≠ 0) (x : Rc) : Has (f.set i (putBk b r torn)) x ↔ (torn = false ∧ x = r) ∨ Has f x := by
  have hw := wr_put h (List.mem_of_getElem? hb) hr torn hc x
  have hi := (List.getElem?_eq_some_iff.1 hb).1
  constructor
  · rintro ⟨c, hc', hx⟩
    obtain ⟨j, hj⟩ := List.mem_iff_getElem?.1 hc'
    rcases getElem?_set_cases hj with ⟨_, rfl⟩ | ⟨_, hj⟩
    · rcases hw.1 hx with hx | hx
      · exact .inl hx
      · exact .inr ⟨b, List.mem_of_getElem? hb, hx⟩
    · exact .inr ⟨c, List.mem_of_getElem? hj, hx⟩
  · rintro (hx | ⟨c, hc', hx⟩)
    · exact ⟨_, List.mem_iff_getElem?.2 ⟨i, List.getElem?_set_self hi⟩, hw.2 (.inl hx)⟩
    · obtain ⟨j, hj⟩ := List.mem_iff_getElem?.1 hc'
      by_cases hij : i = j
      · subst hij
        rw [hb, Option.some.injEq] at hj
        subst hj
        exact ⟨_, List.mem_iff_getElem?.2 ⟨i, List.getElem?_set_self hi⟩, hw.2 (.inr hx)⟩
      · exact ⟨c, List.mem_iff_getElem?.2 ⟨j, by rw [List.getElem?_set_ne hij]; exact hj⟩, hx⟩
theorem has_below {f : List Bk} (h : flashOk f = true) {s : Int} (hs : ∀ c ∈ f, most c < s) {x : Rc} (hx : Has f x) : x.seq < s := by
  obtain ⟨c, hc, hw⟩ := hx
  have := most_le (bk_parts h hc).2.2.2 (wr_seq hw)
  have := hs c hc
  omega
theorem not_seqIn {f : List Bk} (h : flashOk f = true) {s : Int} (hs : ∀ c ∈ f, most c < s) : seqIn f s ≠ true := fun e => by
  obtain ⟨c, hc, hq⟩ := mem_seqsF.1 (seqIn_iff.1 e)
  have := most_le (bk_parts h hc).2.2.2 hq
  have := hs c hc
  omega
theorem last_put {f : List Bk} (h : flashOk f = true) {i : Nat} {b : Bk} (hb : f[i]? = some b) {r : Rc} (hr : recOk r = true) (hc : clean b ≠ 0) (hs : ∀ c ∈ f, most c < r.seq) (a : Int) :
    last (f.set i (putBk b r false)) a = if a = r.addr then r else last f a := by
  have hok := put_ok4 h hb hr false hc (not_seqIn h hs)
  by_cases ha : a = r.addr
  · rw [if_pos ha, ha]
    refine last_eq hok ((has_put h hb hr false hc r).2 (.inl ⟨rfl, rfl⟩)) fun q hq _ => ?_
    rcases (has_put h hb hr false hc q).1 hq with ⟨_, rfl⟩ | hq
    · exact Int.le_refl _
    · have := has_below h hs hq; omega
  · rw [if_neg ha]
    refine last_congr h hok fun x hx => ?_
    rw [has_put h hb hr false hc x]
    constructor
    · exact .inr
    · rintro (⟨_, rfl⟩ | hx')
      · exact absurd hx.symm ha
      · exact hx'
theorem last_torn {f : List Bk} (h : flashOk f = true) {i : Nat} {b : Bk} (hb : f[i]? = some b) {r : Rc} (hr : recOk r = true) (hc : clean b ≠ 0) (hs : ∀ c ∈ f, most c < r.seq) (a : Int) :
    last (f.set i (putBk b r true)) a = last f a := by
  have hok := put_ok4 h hb hr true hc (not_seqIn h hs)
  refine last_congr h hok fun x hx => ?_
  rw [has_put h hb hr true hc x]
  simp
/-! ### a block wiped -/
theorem has_wipe {f : List Bk} {i : Nat} (hi : i < f.length) (torn : Bool) (x : Rc) : Has (wipe f i torn) x ↔ ∃ (j : Nat) (c : Bk), j ≠ i ∧ f[j]? = some c ∧ Wr c x := by
  constructor
  · rintro ⟨c, hc, hx⟩
    obtain ⟨j, hj⟩ := List.mem_iff_getElem?.1 hc
    unfold wipe at hj
    rcases getElem?_set_cases hj with ⟨_, rfl⟩ | ⟨hne, hj⟩
    · obtain ⟨p, hp, p1, _⟩ := hx
      dsimp only at hp
      rw [List.mem_replicate] at hp
      rw [hp.2] at p1
      cases torn
      · exact absurd p1 (by show ¬ (0 : Int) = 1; decide)
      · exact absurd p1 (by show ¬ (2 : Int) = 1; decide)
    · exact ⟨j, c, hne, hj, hx⟩
  · rintro ⟨j, c, hne, hj, hx⟩
    exact ⟨c, List.mem_iff_getElem?.2 ⟨j, by rw [wipe_ne hne]; exact hj⟩, hx⟩
/-- the eldest block's records are the eldest -/
theorem eldest {f : List Bk} (h : flashOk f = true) (hO : Ord f) {i j : Nat} {b c : Bk} (hij : j ≠ i) (hb : f[i]? = some b) (hc : f[j]? = some c) (hmin : ∀ d ∈ f, most b ≤ most d) {r q : Rc} (hr : Wr b r) (hq : Wr c q) : r.seq < q.seq := by
  have pb := (bk_parts h (List.mem_of_getElem? hb)).2.2.2
  have pc := (bk_parts h (List.mem_of_getElem? hc)).2.2.2
  have b1 := most_le pb (wr_seq hr)
  have b2 := least_le pb (wr_seq hr)
  have c1 := most_le pc (wr_seq hq)
  have c2 := least_le pc (wr_seq hq)
  have p1 := (seq_pos pb (wr_seq hr)).1
  have p2 := (seq_pos pc (wr_seq hq)).1
  have h1 := hO.apart i j b c (Ne.symm hij) hb hc (by omega) (by omega)
  have h2 := hmin c (List.mem_of_getElem? hc)
  have hne : r.seq ≠ q.seq := fun e => hij (wr_inj h hb hc hr hq e).1.symm
  have h3 : most b ≠ most c := fun e => seqs_apart ((flashOk_iff f).1 h).2.2 (Ne.symm hij) hb hc (most_mem pb (by omega)) (e ▸ most_mem pc (by omega))
  have h4 := least_most pb (by omega)
  have h5 := least_most pc (by omega)
  have h6 : least c ≠ most b := fun e => seqs_apart ((flashOk_iff f).1 h).2.2 (Ne.symm hij) hb hc (most_mem pb (by omega)) (e ▸ least_mem pc (by omega))
  by_cases h7 : least c < most b
  · exact absurd ⟨by omega, h7⟩ h1
  · omega
theorem last_wipe {f : List Bk} (h : flashOk f = true) (hO : Ord f) {i : Nat} {b : Bk} (hb : f[i]? = some b) (hmin : ∀ d ∈ f, most b ≤ most d) (hw : b.worn ≠ 200) (torn : Bool) (a : Int) :
    (Wr b (last f a) → last (wipe f i torn) a = rc0) ∧ (¬ Wr b (last f a) → last (wipe f i torn) a = last f a) := by
  have hi := (List.getElem?_eq_some_iff.1 hb).1
  have hok := wiped_ok h (by rw [flashOk_len h] at hi; exact hi) torn (by rw [getD_of hb]; exact hw)
  constructor
  · intro hl
    refine last_noneB fun x hx ha => ?_
    obtain ⟨j, c, hne, hj, hx⟩ := (has_wipe hi torn x).1 hx
    have h1 := eldest h hO hne hb hj hmin hl hx
    have h2 := last_max (f := f) ⟨c, List.mem_of_getElem? hj, hx⟩
    rw [ha] at h2
    omega
  · intro hl
    rcases last_has f a with e | ⟨⟨c, hc, hx⟩, e2⟩
    · rw [e]
      refine last_noneB fun x hx ha => ?_
      obtain ⟨j, c, hne, hj, hx⟩ := (has_wipe hi torn x).1 hx
      have hh : Has f x := ⟨c, List.mem_of_getElem? hj, hx⟩
      have h2 := last_max hh
      have h3 := has_pos h hh
      rw [ha, e] at h2
      have : rc0.seq = 0 := rfl
      omega
    · obtain ⟨j, hj⟩ := List.mem_iff_getElem?.1 hc
      have hne : j ≠ i := by
        rintro rfl
        rw [hb, Option.some.injEq] at hj
        subst hj
        exact hl hx
      have := last_eq hok ((has_wipe hi torn _).2 ⟨j, c, hne, hj, hx⟩) (fun q hq ha => by
        obtain ⟨j', c', _, hj', hq⟩ := (has_wipe hi torn q).1 hq
        have := last_max (f := f) ⟨c', List.mem_of_getElem? hj', hq⟩
        rwa [ha, e2] at this)
      rwa [e2] at this
end Go.Proofs.Ytbekihiiildgmaa
namespace Go.Proofs.Ytbekihiiildgmaa
set_option linter.unusedVariables false
set_option linter.unusedSimpArgs false
theorem diskGo_iff {f : List Bk} : ∀ (xs : List Int) (i : Nat), diskGo f i xs = true ↔ ∀ (k : Nat) (v : Int), xs[k]? = some v → valB v = true ∧ ¬ diskBad f (i + k) v
  | [], i => by simp [diskGo]
  | x :: xs, i => by
    unfold diskGo
    constructor
    · intro h k v hk
      split at h
      · rename_i h1
        split at h
        · cases h
        · rename_i h2
          cases k with
          | zero => rw [List.getElem?_cons_zero, Option.some.injEq] at hk; subst hk; exact ⟨h1, h2⟩
          | succ k =>
            have := (diskGo_iff xs (i + 1)).1 h k v (by simpa using hk)
            rwa [show i + 1 + k = i + (k + 1) by omega] at this
      · cases h
    · intro h
      have h0 := h 0 x rfl
      rw [if_pos h0.1, if_neg (by simpa using h0.2)]
      refine (diskGo_iff xs (i + 1)).2 fun k v hk => ?_
      have := h (k + 1) v (by simpa using hk)
      rwa [show i + (k + 1) = i + 1 + k by omega] at this
/-- the value of an address on the slow disk -/
def dk (s : St) (a : Int) : Int := s.disk.getD (a - 1).toNat 0
structure Okay (s : St) : Prop where
  len : s.disk.length = 6
  ord : findOrderI s.flash = true
  val : ∀ a : Int, 1 ≤ a → a ≤ 6 → valB (dk s a) = true
  agree : ∀ a : Int, 1 ≤ a → a ≤ 6 → 0 < (last s.flash a).seq → (last s.flash a).kind = 2 → (last s.flash a).val = dk s a
theorem dk_get {s : St} (h6 : s.disk.length = 6) {a : Int} (h1 : 1 ≤ a) (h2 : a ≤ 6) : s.disk[(a - 1).toNat]? = some (dk s a) := by
  obtain ⟨v, hv⟩ := get_some (l := s.disk) (k := (a - 1).toNat) (by omega)
  unfold dk
  rw [List.getD_eq_getElem?_getD, hv]; rfl
theorem dk_at {s : St} {k : Nat} {v : Int} (h : s.disk[k]? = some v) : dk s ((k : Int) + 1) = v := by
  unfold dk
  rw [show ((k : Int) + 1 - 1).toNat = k by omega, List.getD_eq_getElem?_getD, h]; rfl
theorem storeOk_iff {s : St} : storeOk s = true ↔ Okay s := by
  constructor
  · intro h
    obtain ⟨h6, ho, hd⟩ := storeOk_parts h
    have hd' := (diskGo_iff s.disk 0).1 hd
    refine ⟨h6, ho, fun a h1 h2 => (hd' _ _ (dk_get h6 h1 h2)).1, fun a h1 h2 h3 h4 => ?_⟩
    have := (hd' _ _ (dk_get h6 h1 h2)).2
    unfold diskBad at this
    rw [show ((0 + (a - 1).toNat : Nat) : Int) + 1 = a by omega] at this
    by_cases he : (last s.flash a).val = dk s a
    · exact he
    · exact absurd ⟨h3, h4, he⟩ this
  · intro h
    unfold storeOk
    rw [if_pos h.len, if_pos h.ord]
    refine (diskGo_iff s.disk 0).2 fun k v hk => ?_
    have hk6 : k < 6 := by rw [← h.len]; exact (List.getElem?_eq_some_iff.1 hk).1
    have e := dk_at hk
    have h1 := h.val ((k : Int) + 1) (by omega) (by omega)
    have h2 := h.agree ((k : Int) + 1) (by omega) (by omega)
    rw [e] at h1 h2
    refine ⟨h1, ?_⟩
    unfold diskBad
    rw [Nat.zero_add]
    rintro ⟨h3, h4, h5⟩
    exact h5 (h2 h3 h4)
theorem readV_dk (s : St) (a : Int) : readV s a = if 0 < (last s.flash a).seq then (last s.flash a).val else dk s a := rfl
def Same (s t : St) : Prop := ∀ a : Int, 1 ≤ a → a ≤ 6 → readV t a = readV s a
theorem Same.refl (s : St) : Same s s := fun _ _ _ => rfl
theorem Same.trans {s t u : St} (h : Same s t) (k : Same t u) : Same s u := fun a h1 h2 => (k a h1 h2).trans (h a h1 h2)
theorem Okay.flash {s : St} (h : Okay s) : flashOk s.flash = true := order_ok h.ord
theorem Okay.isOrd {s : St} (h : Okay s) : Ord s.flash := (findOrderI_iff h.flash).1 h.ord
theorem dk_set {s : St} (h6 : s.disk.length = 6) {a b v : Int} (h1 : 1 ≤ a) (h2 : a ≤ 6) (h3 : 1 ≤ b) : dk ⟨s.flash, s.disk.set (a - 1).toNat v⟩ b = if b = a then v else dk s b := by
  unfold dk
  rw [List.getD_eq_getElem?_getD, List.getD_eq_getElem?_getD]
  by_cases hb : b = a
  · subst hb
    rw [if_pos rfl, List.getElem?_set_self (by omega)]; rfl
  · rw [if_neg hb, List.getElem?_set_ne (by omega)]
/-- a value told that has a dirty record -/
theorem tell_ok {s : St} (h : Okay s) {a v : Int} (h1 : 1 ≤ a) (h2 : a ≤ 6) (hv : valB v = true) (hl : 0 < (last s.flash a).seq) (hk : (last s.flash a).kind = 1) :
    Okay ⟨s.flash, s.disk.set (a - 1).toNat v⟩ ∧ Same s ⟨s.flash, s.disk.set (a - 1).toNat v⟩ := by
  refine ⟨⟨by rw [List.length_set]; exact h.len, h.ord, fun b b1 b2 => ?_, fun b b1 b2 b3 b4 => ?_⟩, fun b b1 b2 => ?_⟩
  · rw [dk_set h.len h1 h2 b1]
    split
    · exact hv
    · exact h.val b b1 b2
  · dsimp only at b3 b4 ⊢
    rw [dk_set h.len h1 h2 b1]
    split
    · rename_i e; subst e; omega
    · exact h.agree b b1 b2 b3 b4
  · rw [readV_dk, readV_dk, dk_set h.len h1 h2 b1]
    dsimp only
    by_cases e : b = a
    · subst e; rw [if_pos hl, if_pos hl]
    · rw [if_neg e]
/-! ### a run of steps, safe wherever it falls -/
def Safe (K E : St → Prop) : St → List Sp → Prop
  | s, [] => E s
  | s, x :: xs => K s ∧ K (doStep s x true) ∧ Safe K E (doStep s x false) xs
theorem Safe.mono {K E K' E' : St → Prop} (hK : ∀ s, K s → K' s) (hE : ∀ s, E s → E' s) : ∀ {xs : List Sp} {s : St}, Safe K E s xs → Safe K' E' s xs
  | [], _, h => hE _ h
  | _ :: _, _, h => ⟨hK _ h.1, hK _ h.2.1, Safe.mono hK hE h.2.2⟩
theorem Safe.append {K E : St → Prop} {ys : List Sp} : ∀ {xs : List Sp} {s : St}, Safe K (fun t => Safe K E t ys) s xs → Safe K E s (xs ++ ys)
  | [], _, h => h
  | _ :: _, _, h => ⟨h.1, h.2.1, Safe.append h.2.2⟩
theorem doTo_cons {s : St} {x : Sp} {xs : List Sp} {n : Nat} {torn : Bool} : doTo s (x :: xs) ((n + 1 : Nat) : Int) torn = doTo (doStep s x false) xs n torn := by
  unfold doTo
  rw [show (((n + 1 : Nat) : Int)).toNat = n + 1 by omega, Int.toNat_natCast, List.take_succ_cons]
  have hd : doAllOf s (x :: xs.take n) = doAllOf (doStep s x false) (xs.take n) := rfl
  rw [hd]
  by_cases hc : torn = true ∧ (0 : Int) ≤ ((n + 1 : Nat) : Int) ∧ ((n + 1 : Nat) : Int) < ((x :: xs).length : Nat)
  · rw [if_pos hc, if_pos ⟨hc.1, by omega, by have := hc.2.2; rw [List.length_cons] at this; omega⟩, List.getD_cons_succ]
  · rw [if_neg hc, if_neg (fun e => hc ⟨e.1, by omega, by rw [List.length_cons]; omega⟩)]
theorem doTo_zero {s : St} {x : Sp} {xs : List Sp} {cut : Int} (h : cut.toNat = 0) {torn : Bool} : doTo s (x :: xs) cut torn = s ∨ doTo s (x :: xs) cut torn = doStep s x true := by
  unfold doTo
  rw [h]
  split
  · exact .inr rfl
  · exact .inl rfl
theorem Safe.to {K E : St → Prop} : ∀ {xs : List Sp} {s : St}, Safe K E s xs → ∀ (cut : Int) (torn : Bool), (xs.length ≤ cut.toNat → E (doTo s xs cut torn)) ∧ (cut.toNat < xs.length → K (doTo s xs cut torn))
  | [], s, h, cut, torn => by
    have he : doTo s [] cut torn = s := by
      unfold doTo
      rw [if_neg (by rintro ⟨_, h1, h2⟩; simp at h2; omega)]
      simp [doAllOf]
    rw [he]
    exact ⟨fun _ => h, fun hc => by simp at hc⟩
  | x :: xs, s, h, cut, torn => by
    by_cases h0 : cut.toNat = 0
    · refine ⟨fun hl => by rw [h0] at hl; simp at hl, fun _ => ?_⟩
      rcases doTo_zero (s := s) (x := x) (xs := xs) h0 (torn := torn) with e | e
      · rw [e]; exact h.1
      · rw [e]; exact h.2.1
    · obtain ⟨n, hn⟩ : ∃ n : Nat, cut = ((n + 1 : Nat) : Int) := ⟨cut.toNat - 1, by omega⟩
      subst hn
      rw [doTo_cons]
      have := h.2.2.to n torn
      rw [Int.toNat_natCast] at this
      rw [Int.toNat_natCast, List.length_cons]
      exact ⟨fun hl => this.1 (by omega), fun hl => this.2 (by omega)⟩
/-! ### the eldest, by the program and by the reference -/
theorem oldGo_hi {f : List Bk} : ∀ (r : List Bk) (i out : Nat), hiGo (f.map spn) i out (r.map spn) = oldGo f i out r
  | [], _, _ => rfl
  | b :: r, i, out => by
    have he : ((f.map spn).getD out (0, 0)).2 = most (f.getD out zbk) := by
      rw [List.getD_eq_getElem?_getD, List.getD_eq_getElem?_getD, List.getElem?_map]
      cases f[out]? <;> rfl
    rw [List.map_cons]
    unfold hiGo oldGo
    rw [he]
    show (if most b < most (f.getD out zbk) then _ else _) = _
    rw [oldGo_hi r, oldGo_hi r]
theorem findOld_old {f : List Bk} (h : flashOk f = true) : findOld f = (old f : Nat) := by
  unfold findOld
  rw [if_pos h, spOf_eq h]
  have hl := flashOk_len h
  congr 1
  cases f with
  | nil => simp at hl
  | cons b r =>
    unfold old
    rw [List.map_cons]
    show hiGo ((b :: r).map spn) 0 0 (spn b :: r.map spn) = _
    unfold hiGo
    rw [if_neg (by show ¬ most b < most b; omega)]
    exact oldGo_hi r 1 0
theorem old_min {f : List Bk} (h : flashOk f = true) {b : Bk} (hb : f[old f]? = some b) : ∀ d ∈ f, most b ≤ most d := findOld_min h (findOld_old h) hb
def wearS (f : List Bk) : Int := f.foldr (fun b n => b.worn + n) 0
theorem wearS_set : ∀ {f : List Bk} {i : Nat} {b : Bk} (c : Bk), f[i]? = some b → wearS (f.set i c) = wearS f + c.worn - b.worn
  | [], _, _, _, h => by simp at h
  | a :: f, 0, b, c, h => by
    rw [List.getElem?_cons_zero, Option.some.injEq] at h
    subst h
    rw [List.set_cons_zero]
    show c.worn + wearS f = a.worn + wearS f + c.worn - a.worn
    omega
  | a :: f, i + 1, b, c, h => by
    rw [List.getElem?_cons_succ] at h
    rw [List.set_cons_succ]
    show a.worn + wearS (f.set i c) = a.worn + wearS f + c.worn - b.worn
    rw [wearS_set c h]
    omega
theorem wearS_mem {b : Bk} : ∀ {f : List Bk}, (∀ c ∈ f, 0 ≤ c.worn) → b ∈ f → b.worn ≤ wearS f
  | [], _, h => by cases h
  | a :: f, hp, h => by
    have h0 : ∀ {g : List Bk}, (∀ c ∈ g, 0 ≤ c.worn) → 0 ≤ wearS g := by
      intro g
      induction g with
      | nil => intro _; exact Int.le_refl _
      | cons c g ih =>
        intro hg
        have h1 := hg c (List.mem_cons_self ..)
        have h2 := ih fun d hd => hg d (List.mem_cons_of_mem _ hd)
        show 0 ≤ c.worn + wearS g
        omega
    show b.worn ≤ a.worn + wearS f
    have hpf := fun c hc => hp c (List.mem_cons_of_mem _ hc)
    rcases List.mem_cons.1 h with rfl | h
    · have := h0 hpf; omega
    · have := wearS_mem hpf h
      have := hp a (List.mem_cons_self ..)
      omega
theorem next_le {f g : List Bk} (h : ∀ c ∈ g, most c < next f) (h0 : 1 ≤ next f) : next g ≤ next f := by
  have : topSeq g ≤ next f - 1 := topSeq_le (by omega) (fun b hb => by have := h b hb; omega)
  unfold next at *
  omega
theorem next_pos (f : List Bk) : 1 ≤ next f := by have := le_topSeq0 (f := f) (n := 0); unfold next topSeq; omega
/-- a state in the midst of steps -/
structure Mid (s t : St) : Prop where
  ok : Okay t
  same : Same s t
  nx : next t.flash ≤ next s.flash
  wear : wearS t.flash ≤ wearS s.flash + 1
  drt : ∀ b, dirty t.flash b = true → dirty s.flash b = true
  dsk : ∀ c : Int, 1 ≤ c → c ≤ 6 → dk t c = dk s c ∨ dk t c = readV s c
theorem Mid.refl {s : St} (h : Okay s) : Mid s s := ⟨h, Same.refl s, Int.le_refl _, by omega, fun _ h => h, fun _ _ _ => .inl rfl⟩
/-- behind them -/
structure Fin (s : St) (k a v : Int) (t : St) : Prop where
  ok : Okay t
  read : ∀ b : Int, 1 ≤ b → b ≤ 6 → readV t b = if b = a then v else readV s b
  rec_ : last t.flash a = ⟨k, next s.flash, a, v⟩
  nx : next t.flash ≤ next s.flash + 1
  wear : wearS t.flash ≤ wearS s.flash + 1
  drt : ∀ b, b ≠ a → dirty t.flash b = true → dirty s.flash b = true
  dsk : ∀ c : Int, 1 ≤ c → c ≤ 6 → dk t c = dk s c ∨ dk t c = readV s c
/-- told: on the flash of s still, with the values told -/
def Told (s t : St) : Prop := Mid s t ∧ t.flash = s.flash ∧ ∀ c : Int, 1 ≤ c → c ≤ 6 → dk t c = dk s c ∨ dk t c = readV s c
theorem told_page {f : List Bk} (h : flashOk f = true) {b : Bk} (hb : b ∈ f) {p : Pg} (hp : p ∈ b.pages) (ht : told f p = true) :
    (1 ≤ p.rc.addr ∧ p.rc.addr ≤ 6) ∧ valB p.rc.val = true ∧ last f p.rc.addr = p.rc ∧ 0 < p.rc.seq ∧ p.rc.kind = 1 := by
  unfold told live at ht
  rw [Bool.and_eq_true, Bool.and_eq_true, decide_eq_true_iff, decide_eq_true_iff, decide_eq_true_iff] at ht
  obtain ⟨⟨h1, h2⟩, h3⟩ := ht
  have hr := recOk_addr (rec_of_written ((bk_parts h hb).2.2.2 p hp) h1)
  exact ⟨⟨by omega, by omega⟩, by unfold valB; simp; omega, h2, by omega, h3⟩
theorem tells_safe {s0 : St} {b : Bk} (h : flashOk s0.flash = true) (hb : b ∈ s0.flash) : ∀ (ps qs : List Pg) (s : St), (∀ p ∈ ps, p ∈ b.pages ∧ told s0.flash p = true) → (∀ p ∈ qs, p ∈ b.pages ∧ told s0.flash p = true ∧ dk s p.rc.addr = p.rc.val) → Told s0 s →
    Safe (Told s0) (fun t => Told s0 t ∧ ∀ p ∈ qs ++ ps, dk t p.rc.addr = p.rc.val) s (ps.map tellP)
  | [], qs, s, _, hq, hs => ⟨hs, fun p hp => (hq p (by simpa using hp)).2.2⟩
  | p :: ps, qs, s, hp, hq, hs => by
    obtain ⟨hpb, hpt⟩ := hp p (List.mem_cons_self ..)
    obtain ⟨⟨a1, a2⟩, av, al, as_, ak⟩ := told_page h hb hpb hpt
    have hl : last s.flash p.rc.addr = p.rc := by rw [hs.2.1]; exact al
    have ht := tell_ok hs.1.ok a1 a2 av (by rw [hl]; exact as_) (by rw [hl]; exact ak)
    have hX : ∀ c : Int, 1 ≤ c → c ≤ 6 → dk ⟨s.flash, s.disk.set (p.rc.addr - 1).toNat p.rc.val⟩ c = dk s0 c ∨ dk ⟨s.flash, s.disk.set (p.rc.addr - 1).toNat p.rc.val⟩ c = readV s0 c := fun c c1 c2 => by
      rw [dk_set hs.1.ok.len a1 a2 c1]
      split
      · rename_i e
        right
        rw [e, readV_dk, al, if_pos as_]
      · exact hs.2.2 c c1 c2
    have hT : Told s0 ⟨s.flash, s.disk.set (p.rc.addr - 1).toNat p.rc.val⟩ := ⟨⟨ht.1, hs.1.same.trans ht.2, hs.1.nx, hs.1.wear, hs.1.drt, hX⟩, hs.2.1, hX⟩
    have hd : doStep s (tellP p) false = ⟨s.flash, s.disk.set (p.rc.addr - 1).toNat p.rc.val⟩ := rfl
    have hdt : doStep s (tellP p) true = s := rfl
    rw [List.map_cons]
    refine ⟨hs, by rw [hdt]; exact hs, ?_⟩
    rw [hd]
    have ih := tells_safe h hb ps (qs ++ [p]) _ (fun q hq' => hp q (List.mem_cons_of_mem _ hq')) (fun q hq' => ?_) hT
    · refine ih.mono (fun _ h => h) fun t ht => ⟨ht.1, fun q hq' => ht.2 q ?_⟩
      simpa using hq'
    · rcases List.mem_append.1 hq' with hq' | hq'
      · obtain ⟨q1, q2, q3⟩ := hq q hq'
        refine ⟨q1, q2, ?_⟩
        obtain ⟨⟨c1, c2⟩, _, cl, _, _⟩ := told_page h hb q1 q2
        rw [dk_set hs.1.ok.len a1 a2 c1]
        split
        · rename_i e
          rw [e, al] at cl
          rw [cl]
        · exact q3
      · rw [List.mem_singleton] at hq'
        subst hq'
        exact ⟨hpb, hpt, by rw [dk_set hs.1.ok.len a1 a2 a1, if_pos rfl]⟩
theorem dirty_of_last {f g : List Bk} {b : Int} (h : last g b = rc0 ∨ last g b = last f b) (hd : dirty g b = true) : dirty f b = true := by
  unfold dirty at hd ⊢
  rcases h with h | h
  · rw [h] at hd
    exact absurd hd (by decide)
  · rwa [← h]
/-- the eldest wiped, when its dirty values are told -/
theorem wipe_mid {s t : St} (hT : Told s t) {i : Nat} {b : Bk} (hb : s.flash[i]? = some b) (hmin : ∀ d ∈ s.flash, most b ≤ most d) (hw : b.worn ≠ 200) (hd : ∀ p ∈ b.pages, told s.flash p = true → dk t p.rc.addr = p.rc.val) (torn : Bool) :
    Mid s ⟨wipe t.flash i torn, t.disk⟩ ∧ (∀ a, last (wipe s.flash i torn) a = rc0 ∨ last (wipe s.flash i torn) a = last s.flash a) := by
  obtain ⟨hM, hf, hX⟩ := hT
  have hok := hM.ok
  rw [hf]
  have hfl := hok.flash
  rw [hf] at hfl
  have hO : Ord s.flash := by have := hok.isOrd; rwa [hf] at this
  have hl := flashOk_len hfl
  have hi : i < 4 := by rw [← hl]; exact (List.getElem?_eq_some_iff.1 hb).1
  have hok' := wiped_ok hfl hi torn (by rw [getD_of hb]; exact hw)
  have hlast := fun a => last_wipe hfl hO hb hmin hw torn a
  have hnn : ∀ c ∈ s.flash, 0 ≤ most c := fun c hc => most_nn (bk_parts hfl hc).2.2.2
  have hord := (findOrderI_iff hok').2 (ord_wipe hO hnn i torn)
  have hcase : ∀ a, last (wipe s.flash i torn) a = rc0 ∨ last (wipe s.flash i torn) a = last s.flash a := fun a => by
    by_cases h : Wr b (last s.flash a)
    · exact .inl ((hlast a).1 h)
    · exact .inr ((hlast a).2 h)
  have hread : ∀ a : Int, 1 ≤ a → a ≤ 6 → readV ⟨wipe s.flash i torn, t.disk⟩ a = readV t a := fun a a1 a2 => by
    rw [readV_dk, readV_dk]
    dsimp only
    rw [hf]
    show (if 0 < (last (wipe s.flash i torn) a).seq then (last (wipe s.flash i torn) a).val else dk t a) = _
    by_cases h : Wr b (last s.flash a)
    · rw [(hlast a).1 h, if_neg (by decide)]
      by_cases h0 : 0 < (last s.flash a).seq
      · rw [if_pos h0]
        obtain ⟨h1, h2⟩ := last_pos h0
        rcases last_kind hfl h0 with hk | hk
        · obtain ⟨p, hp, p1, p2⟩ := h
          have ht : told s.flash p = true := by
            unfold told live
            rw [p2, h2, p1, hk]; simp
          have := hd p hp ht
          rw [p2, h2] at this
          exact this
        · have := hok.agree a a1 a2
          rw [hf] at this
          exact (this h0 hk).symm
      · rw [if_neg h0]
    · rw [(hlast a).2 h]
  refine ⟨⟨⟨hok.len, hord, fun a a1 a2 => hok.val a a1 a2, fun a a1 a2 a3 a4 => ?_⟩, fun a a1 a2 => (hread a a1 a2).trans (hM.same a a1 a2), ?_, ?_, fun c hc => dirty_of_last (hcase c) hc, fun c c1 c2 => hX c c1 c2⟩, hcase⟩
  · dsimp only at a3 a4 ⊢
    rcases hcase a with e | e
    · rw [e] at a3; exact absurd a3 (by decide)
    · rw [e] at a3 a4 ⊢
      have := hok.agree a a1 a2
      rw [hf] at this
      exact this a3 a4
  · refine next_le (fun c hc => ?_) (next_pos _)
    dsimp only at hc
    unfold wipe at hc
    rcases mem_set hc with hc | rfl
    · exact top_lt hc
    · have h1 := (wiped_none torn ((s.flash.getD i zbk).worn + 1)).1
      have h2 := next_pos s.flash
      rw [h1]; omega
  · show wearS (wipe s.flash i torn) ≤ _
    unfold wipe
    rw [wearS_set _ hb, getD_of hb]
    dsimp only
    omega
/-- a record written, or torn -/
theorem write_fin {s t : St} {k a v : Int} (hok : Okay t) (hsame : Same s t) (hnx : next t.flash ≤ next s.flash) (hwear : wearS t.flash ≤ wearS s.flash + 1) (hdr : ∀ b, dirty t.flash b = true → dirty s.flash b = true) (hX : ∀ c : Int, 1 ≤ c → c ≤ 6 → dk t c = dk s c ∨ dk t c = readV s c) {i : Nat} {b : Bk} (hb : t.flash[i]? = some b) (hc : clean b ≠ 0) (hS : Sole t.flash i)
    (hr : recOk ⟨k, next s.flash, a, v⟩ = true) (h2 : k = 2 → dk t a = v) :
    (doStep t ⟨3, 0, 0, i, ⟨k, next s.flash, a, v⟩⟩ true = ⟨t.flash.set i (putBk b ⟨k, next s.flash, a, v⟩ true), t.disk⟩ ∧ Mid s (doStep t ⟨3, 0, 0, i, ⟨k, next s.flash, a, v⟩⟩ true)) ∧
    (doStep t ⟨3, 0, 0, i, ⟨k, next s.flash, a, v⟩⟩ false = ⟨t.flash.set i (putBk b ⟨k, next s.flash, a, v⟩ false), t.disk⟩ ∧ Fin s k a v (doStep t ⟨3, 0, 0, i, ⟨k, next s.flash, a, v⟩⟩ false)) := by
  have hfl := hok.flash
  have hlt : ∀ c ∈ t.flash, most c < (⟨k, next s.flash, a, v⟩ : Rc).seq := fun c hc => by have := top_lt hc; dsimp only; omega
  have hnot := not_seqIn hfl hlt
  have hwr : ∀ torn, writeR t.flash i ⟨k, next s.flash, a, v⟩ torn = (t.flash.set i (putBk b ⟨k, next s.flash, a, v⟩ torn), true) := fun torn => by
    unfold writeR
    rw [getD_of hb, if_neg (by rintro (e | e); exact hc e; exact hnot e)]
    rfl
  have hstep : ∀ torn, doStep t ⟨3, 0, 0, i, ⟨k, next s.flash, a, v⟩⟩ torn = ⟨t.flash.set i (putBk b ⟨k, next s.flash, a, v⟩ torn), t.disk⟩ := fun torn => by
    unfold doStep
    rw [if_neg (by dsimp only; decide), if_neg (by dsimp only; decide), if_pos rfl]
    dsimp only
    rw [Int.toNat_natCast, hwr]
  have hok4 : ∀ torn, flashOk (t.flash.set i (putBk b ⟨k, next s.flash, a, v⟩ torn)) = true := fun torn => put_ok4 hfl hb hr torn hc hnot
  have hord : ∀ torn, findOrderI (t.flash.set i (putBk b ⟨k, next s.flash, a, v⟩ torn)) = true := fun torn => (findOrderI_iff (hok4 torn)).2 (ord_put hfl hok.isOrd hb hr torn hc hS hlt)
  have hw : ∀ torn, wearS (t.flash.set i (putBk b ⟨k, next s.flash, a, v⟩ torn)) = wearS t.flash := fun torn => by
    rw [wearS_set _ hb]
    show wearS t.flash + b.worn - b.worn = _
    omega
  have hlt' := last_torn hfl hb hr hc hlt
  have hlp := last_put hfl hb hr hc hlt
  have hmem := List.mem_of_getElem? hb
  have hmost : ∀ torn, ∀ c ∈ t.flash.set i (putBk b ⟨k, next s.flash, a, v⟩ torn), most c ≤ next s.flash ∧ (torn = true → most c < next s.flash) := fun torn c hcm => by
    rcases mem_set hcm with hcm | rfl
    · have := top_lt hcm; exact ⟨by omega, fun _ => by omega⟩
    · obtain ⟨_, kp, _, k4, k5⟩ := putBk_parts hfl hmem hr torn hc
      have hbp := (bk_parts hfl hmem).2.2.2
      have := hlt b hmem
      dsimp only at this
      cases torn
      · have := (span_put hbp kp (k5 rfl) (hlt b hmem)).1
        exact ⟨by rw [this]; exact Int.le_refl _, fun e => by cases e⟩
      · have := (span_same hbp kp (k4 rfl)).1
        exact ⟨by omega, fun _ => by omega⟩
  refine ⟨⟨hstep true, ?_⟩, ⟨hstep false, ?_⟩⟩
  · rw [hstep true]
    refine ⟨⟨hok.len, hord true, fun c c1 c2 => hok.val c c1 c2, fun c c1 c2 c3 c4 => ?_⟩, fun c c1 c2 => ?_, next_le (fun c hc => (hmost true c hc).2 rfl) (next_pos _), by rw [hw]; exact hwear, fun c hcd => ?_, fun c c1 c2 => hX c c1 c2⟩
    · dsimp only at c3 c4 ⊢
      rw [hlt'] at c3 c4 ⊢
      exact hok.agree c c1 c2 c3 c4
    · rw [← hsame c c1 c2, readV_dk, readV_dk]
      dsimp only
      rw [hlt']; rfl
    · refine hdr c ?_
      unfold dirty at hcd ⊢
      dsimp only at hcd
      rwa [hlt'] at hcd
  · rw [hstep false]
    refine ⟨⟨hok.len, hord false, fun c c1 c2 => hok.val c c1 c2, fun c c1 c2 c3 c4 => ?_⟩, fun c c1 c2 => ?_, ?_, ?_, by rw [hw]; exact hwear, fun c hne hcd => ?_, fun c c1 c2 => hX c c1 c2⟩
    · dsimp only at c3 c4 ⊢
      rw [hlp] at c3 c4 ⊢
      by_cases e : c = a
      · rw [if_pos e] at c4 ⊢
        dsimp only at c4 ⊢
        rw [e]
        exact (h2 c4).symm
      · rw [if_neg e] at c3 c4 ⊢
        exact hok.agree c c1 c2 c3 c4
    · rw [readV_dk]
      dsimp only
      rw [hlp]
      by_cases e : c = a
      · rw [if_pos e, if_pos e, if_pos (by have := next_pos s.flash; dsimp only; omega)]
      · rw [if_neg e, if_neg e, ← hsame c c1 c2, readV_dk]; rfl
    · dsimp only
      rw [hlp, if_pos rfl]
    · have : topSeq (t.flash.set i (putBk b ⟨k, next s.flash, a, v⟩ false)) ≤ next s.flash := topSeq_le (by have := next_pos s.flash; omega) (fun c hc => (hmost false c hc).1)
      show topSeq (t.flash.set i (putBk b ⟨k, next s.flash, a, v⟩ false)) + 1 ≤ next s.flash + 1
      omega
    · refine hdr c ?_
      unfold dirty at hcd ⊢
      dsimp only at hcd
      rwa [hlp, if_neg hne] at hcd
theorem open_false' {f : List Bk} (h : flashOk f = true) (ho : (openB f).2 = false) : ∀ b ∈ f, clean b = 0 := by
  have h4 := fun b hb => (flashOk_shape h b hb).1
  rw [openI_eq h4] at ho
  exact open_false h4 ho
/-- the steps by which a record is written -/
theorem wr_safe {s : St} (h : Okay s) {k a v : Int} (hne : wr s.flash k a v ≠ []) (h2 : k = 2 → dk s a = v ∧ readV s a = v) : Safe (Mid s) (Fin s k a v) s (wr s.flash k a v) := by
  have hfl := h.flash
  have h4 := fun b hb => (flashOk_shape hfl b hb).1
  have hl := flashOk_len hfl
  unfold wr at hne ⊢
  by_cases hc : (room s.flash).2.2 = false ∨ recOk ⟨k, next s.flash, a, v⟩ = false
  · rw [if_pos hc] at hne; exact absurd rfl hne
  · rw [if_neg hc]
    have hr : recOk ⟨k, next s.flash, a, v⟩ = true := by simpa using fun e => hc (.inr e)
    have hroom : (room s.flash).2.2 ≠ false := fun e => hc (.inl e)
    clear hne hc
    by_cases ho : (openB s.flash).2 = true
    · obtain ⟨m, b, h1, hb, hcb, hS⟩ := open_sole hfl h.isOrd (by rw [← openI_eq h4]; exact ho)
      have hob : (openB s.flash).1 = m := by rw [openI_eq h4, h1]
      unfold room
      rw [if_pos ho, hob]
      dsimp only
      rw [List.nil_append]
      obtain ⟨w1, w2⟩ := write_fin (s := s) (t := s) h (Same.refl s) (Int.le_refl _) (by omega) (fun _ h => h) (fun _ _ _ => .inl rfl) hb hcb hS hr (fun e => (h2 e).1)
      exact ⟨Mid.refl h, w1.2, w2.2⟩
    · have ho' : (openB s.flash).2 = false := by simpa using ho
      have h0 := open_false' hfl ho'
      have hi := old_lt4 hl
      obtain ⟨b, hb⟩ := get_some (l := s.flash) (k := old s.flash) (by omega)
      have hmin := old_min hfl hb
      have hbm := List.mem_of_getElem? hb
      unfold room at hroom ⊢
      rw [if_neg ho] at hroom ⊢
      dsimp only at hroom ⊢
      rw [getD_of hb] at hroom ⊢
      have hw : b.worn < 200 := by simpa using hroom
      rw [List.append_assoc]
      refine Safe.append ?_
      have ht := tells_safe (s0 := s) hfl hbm (b.pages.filter (told s.flash)) [] s (fun p hp => List.mem_filter.1 hp) (fun p hp => by cases hp) ⟨Mid.refl h, rfl, fun _ _ _ => .inl rfl⟩
      refine ht.mono (fun _ h => h.1) fun t ⟨hT, hd⟩ => ?_
      have hd' : ∀ p ∈ b.pages, told s.flash p = true → dk t p.rc.addr = p.rc.val := fun p hp hp2 => hd p (by simpa using ⟨hp, hp2⟩)
      have hwm := fun torn => wipe_mid hT hb hmin (by omega) hd' torn
      have hst : ∀ torn, doStep t ⟨2, 0, 0, (old s.flash : Nat), rc0⟩ torn = ⟨wipe t.flash (old s.flash) torn, t.disk⟩ := fun torn => by
        unfold doStep
        rw [if_neg (by dsimp only; decide), if_pos rfl]
        dsimp only
        unfold wipeR
        rw [Int.toNat_natCast, hT.2.1, getD_of hb, if_neg (by omega)]
      have hbw : (wipe t.flash (old s.flash) false)[old s.flash]? = some ⟨List.replicate 4 pg0, b.worn + 1⟩ := by rw [hT.2.1]; exact wiped_b hb false
      obtain ⟨w1, w2⟩ := write_fin (s := s) (t := ⟨wipe t.flash (old s.flash) false, t.disk⟩) (k := k) (a := a) (v := v) (hwm false).1.ok (hwm false).1.same (hwm false).1.nx (hwm false).1.wear (hwm false).1.drt (hwm false).1.dsk hbw (by rw [clean_new]; decide) (fun j c hj hcj => by
          dsimp only at hcj
          rw [hT.2.1, wipe_ne hj] at hcj
          unfold partly
          rw [h0 c (List.mem_of_getElem? hcj)]; rfl) hr (fun e => by
          have hra := recOk_addr hr
          dsimp only at hra
          show dk t a = v
          rcases hT.2.2 a hra.1 hra.2.1 with q | q
          · rw [q]; exact (h2 e).1
          · rw [q]; exact (h2 e).2)
      refine ⟨hT.1, by rw [hst]; exact (hwm true).1, ?_⟩
      rw [hst]
      exact ⟨(hwm false).1, w1.2, w2.2⟩
end Go.Proofs.Ytbekihiiildgmaa
namespace Go.Proofs.Ytbekihiiildgmaa
set_option linter.unusedVariables false
set_option linter.unusedSimpArgs false
/-- what happens by its steps: put, flush, fill -/
theorem wr_iff {f : List Bk} {k a v : Int} : wr f k a v ≠ [] ↔ (room f).2.2 = true ∧ recOk ⟨k, next f, a, v⟩ = true := by
  unfold wr
  by_cases hc : (room f).2.2 = false ∨ recOk ⟨k, next f, a, v⟩ = false
  · rw [if_pos hc]
    refine ⟨fun h => absurd rfl h, fun h => ?_⟩
    rcases hc with e | e
    · rw [e] at h; exact absurd h.1 (by decide)
    · rw [e] at h; exact absurd h.2 (by decide)
  · rw [if_neg hc]
    refine ⟨fun _ => ⟨by simpa using fun e => hc (.inl e), by simpa using fun e => hc (.inr e)⟩, fun _ e => ?_⟩
    simp at e
theorem recOk_mk {k s a v : Int} : recOk ⟨k, s, a, v⟩ = true ↔ (k = 1 ∨ k = 2) ∧ (1 ≤ s ∧ s ≤ 600) ∧ (1 ≤ a ∧ a ≤ 6) ∧ 0 ≤ v ∧ v ≤ 9 := by
  unfold recOk kindB addrB valB
  simp only [Bool.and_eq_true, Bool.or_eq_true, decide_eq_true_iff]
  constructor
  · rintro ⟨h1, h2, h3, ⟨h4, h5⟩, h6, h7⟩; exact ⟨h1, ⟨h2, h3⟩, ⟨h4, h5⟩, h6, h7⟩
  · rintro ⟨h1, ⟨h2, h3⟩, ⟨h4, h5⟩, h6, h7⟩; exact ⟨h1, h2, h3, ⟨h4, h5⟩, h6, h7⟩
theorem room_wear {s : St} (h : Okay s) (hw : wearS s.flash < 200) : (room s.flash).2.2 = true := by
  unfold room
  split
  · rfl
  · have hl := flashOk_len h.flash
    have hi := old_lt4 hl
    obtain ⟨b, hb⟩ := get_some (l := s.flash) (k := old s.flash) (by omega)
    have hm := List.mem_of_getElem? hb
    have := wearS_mem (fun c hc => (bk_parts h.flash hc).2.1.1) hm
    dsimp only
    rw [getD_of hb]
    simpa using (show b.worn < 200 by omega)
theorem wr_can {s : St} (h : Okay s) (hn : next s.flash ≤ 600) (hw : wearS s.flash < 200) {k a v : Int} (hk : k = 1 ∨ k = 2) (ha : 1 ≤ a ∧ a ≤ 6) (hv : 0 ≤ v ∧ v ≤ 9) : wr s.flash k a v ≠ [] :=
  wr_iff.2 ⟨room_wear h hw, recOk_mk.2 ⟨hk, ⟨next_pos _, hn⟩, ha, hv⟩⟩
theorem Mid.trans {s t u : St} (h : Mid s t) (hw : wearS t.flash ≤ wearS s.flash) (k : Mid t u) : Mid s u :=
  ⟨k.ok, h.same.trans k.same, Int.le_trans k.nx h.nx, by have := k.wear; omega, fun b hb => h.drt b (k.drt b hb), fun c c1 c2 => by
    rcases k.dsk c c1 c2 with e | e
    · rw [e]; exact h.dsk c c1 c2
    · rw [e]; exact .inr (h.same c c1 c2)⟩
theorem Fin.after {s t u : St} {k a v : Int} (h : Mid s t) (hf : t.flash = s.flash) (j : Fin t k a v u) : Fin s k a v u :=
  ⟨j.ok, fun b b1 b2 => by
    rw [j.read b b1 b2]
    split
    · rfl
    · exact h.same b b1 b2, by rw [j.rec_, hf], by have := j.nx; rwa [hf] at this, by have := j.wear; rwa [hf] at this, fun b hb hd => h.drt b (j.drt b hb hd), fun c c1 c2 => by
    rcases j.dsk c c1 c2 with e | e
    · rw [e]; exact h.dsk c c1 c2
    · rw [e]; exact .inr (h.same c c1 c2)⟩
/-- the values of an ok store are values -/
theorem Okay.vals {s : St} (h : Okay s) {a : Int} (a1 : 1 ≤ a) (a2 : a ≤ 6) : valB (readV s a) = true := by
  rw [readV_dk]
  split
  · rename_i hp
    obtain ⟨h1, h2⟩ := last_pos hp
    have := recOk_addr (has_ok h.flash h1)
    unfold valB; simp; omega
  · exact h.val a a1 a2
theorem Okay.clean {s : St} (h : Okay s) {a : Int} (a1 : 1 ≤ a) (a2 : a ≤ 6) (hd : dirty s.flash a = false) : dk s a = readV s a := by
  rw [readV_dk]
  split
  · rename_i hp
    rcases last_kind h.flash hp with e | e
    · unfold dirty at hd; rw [e] at hd; simp at hd; omega
    · exact (h.agree a a1 a2 hp e).symm
  · rfl
/-- told first -/
theorem tell_mid {s : St} (h : Okay s) {a : Int} (a1 : 1 ≤ a) (a2 : a ≤ 6) (hd : dirty s.flash a = true) : Mid s ⟨s.flash, s.disk.set (a - 1).toNat (readV s a)⟩ ∧ dk ⟨s.flash, s.disk.set (a - 1).toNat (readV s a)⟩ a = readV s a := by
  unfold dirty at hd
  rw [Bool.and_eq_true, decide_eq_true_iff, decide_eq_true_iff] at hd
  have ht := tell_ok h a1 a2 (h.vals a1 a2) hd.1 hd.2
  refine ⟨⟨ht.1, ht.2, Int.le_refl _, by dsimp only; omega, fun _ h => h, fun c c1 c2 => ?_⟩, by rw [dk_set h.len a1 a2 a1, if_pos rfl]⟩
  rw [dk_set h.len a1 a2 c1]
  split
  · rename_i e; rw [e]; exact .inr rfl
  · exact .inl rfl
def Flushed (s : St) (a : Int) (t : St) : Prop := Fin s 2 a (readV s a) t ∧ dk t a = readV s a
theorem flush_parts {s : St} {a : Int} (hne : flush s a ≠ []) : (1 ≤ a ∧ a ≤ 6) ∧ dirty s.flash a = true ∧ wr s.flash 2 a (readV s a) ≠ [] ∧ flush s a = ⟨1, a, readV s a, 0, rc0⟩ :: wr s.flash 2 a (readV s a) := by
  unfold flush at hne ⊢
  by_cases h1 : addrB a = false ∨ dirty s.flash a = false
  · rw [if_pos h1] at hne; exact absurd rfl hne
  · rw [if_neg h1] at hne ⊢
    by_cases h2 : wr s.flash 2 a (readV s a) = []
    · rw [if_pos h2] at hne; exact absurd rfl hne
    · rw [if_neg h2]
      have ha : addrB a = true := by simpa using fun e => h1 (.inl e)
      unfold addrB at ha
      simp at ha
      exact ⟨ha, by simpa using fun e => h1 (.inr e), h2, rfl⟩
theorem flush_safe {s : St} (h : Okay s) {a : Int} (hne : flush s a ≠ []) : Safe (Mid s) (Flushed s a) s (flush s a) := by
  obtain ⟨⟨a1, a2⟩, hd, hw, he⟩ := flush_parts hne
  rw [he]
  obtain ⟨hM, hk⟩ := tell_mid h a1 a2 hd
  refine ⟨Mid.refl h, ?_, ?_⟩
  · show Mid s s; exact Mid.refl h
  · show Safe (Mid s) (Flushed s a) ⟨s.flash, s.disk.set (a - 1).toNat (readV s a)⟩ (wr s.flash 2 a (readV s a))
    have hr := hM.same a a1 a2
    have := wr_safe hM.ok (k := 2) (a := a) (v := readV s a) hw (fun _ => ⟨hk, hr⟩)
    refine this.mono (fun u hu => hM.trans (Int.le_refl _) hu) fun u hu => ⟨hu.after hM rfl, ?_⟩
    rcases hu.dsk a a1 a2 with e | e
    · rw [e, hk]
    · rw [e, hr]
theorem fill_parts {s : St} {a : Int} (hne : fill s a ≠ []) : (1 ≤ a ∧ a ≤ 6) ∧ ¬ 0 < (last s.flash a).seq ∧ fill s a = wr s.flash 2 a (dk s a) := by
  unfold fill at hne ⊢
  by_cases h1 : addrB a = false ∨ 0 < (last s.flash a).seq
  · rw [if_pos h1] at hne; exact absurd rfl hne
  · rw [if_neg h1] at hne ⊢
    have ha : addrB a = true := by simpa using fun e => h1 (.inl e)
    unfold addrB at ha
    simp at ha
    exact ⟨ha, fun e => h1 (.inr e), rfl⟩
theorem fill_safe {s : St} (h : Okay s) {a : Int} (hne : fill s a ≠ []) : Safe (Mid s) (Fin s 2 a (readV s a)) s (fill s a) := by
  obtain ⟨⟨a1, a2⟩, hd, he⟩ := fill_parts hne
  have hr : readV s a = dk s a := by rw [readV_dk, if_neg hd]
  rw [he] at hne ⊢
  rw [hr]
  exact wr_safe h hne (fun _ => ⟨rfl, hr⟩)
/-- the value that an event gives its address, if it is not cut -/
def evVal (s : St) (e : Ev) : Int := if e.kind = 1 then e.b else readV s e.a
def evKind (e : Ev) : Int := if e.kind = 1 then 1 else 2
structure Done (s : St) (e : Ev) (t : St) : Prop where
  fin : Fin s (evKind e) e.a (evVal s e) t
  told : e.kind = 2 → dk t e.a = readV s e.a
theorem steps_safe {s : St} (h : Okay s) {e : Ev} (hne : stepsOf s e ≠ []) : Safe (Mid s) (Done s e) s (stepsOf s e) := by
  unfold stepsOf at hne ⊢
  by_cases h1 : e.kind = 1
  · rw [if_pos h1] at hne ⊢
    refine (wr_safe h hne (fun e => by cases e)).mono (fun _ h => h) fun t ht => ⟨by unfold evKind evVal; rw [if_pos h1, if_pos h1]; exact ht, fun e => by omega⟩
  · rw [if_neg h1] at hne ⊢
    by_cases h2 : e.kind = 2
    · rw [if_pos h2] at hne ⊢
      exact (flush_safe h hne).mono (fun _ h => h) fun t ht => ⟨by unfold evKind evVal; rw [if_neg h1, if_neg h1]; exact ht.1, fun _ => ht.2⟩
    · rw [if_neg h2] at hne ⊢
      by_cases h3 : e.kind = 3
      · rw [if_pos h3] at hne ⊢
        exact (fill_safe h hne).mono (fun _ h => h) fun t ht => ⟨by unfold evKind evVal; rw [if_neg h1, if_neg h1]; exact ht, fun e => absurd e h2⟩
      · rw [if_neg h3] at hne
        exact absurd rfl hne
theorem doTo_nil (s : St) (c : Int) (t : Bool) : doTo s [] c t = s := by
  unfold doTo
  rw [if_neg (by rintro ⟨_, h1, h2⟩; simp at h2; omega)]
  simp [doAllOf]
theorem doTo_full {s : St} {xs : List Sp} {c : Int} {t : Bool} (h : (xs.length : Int) ≤ c) : doTo s xs c t = doAllOf s xs := by
  unfold doTo
  rw [if_neg (by rintro ⟨_, h1, h2⟩; omega), List.take_of_length_le (by omega)]
/-- how many addresses are dirty -/
def d1 (f : List Bk) (a : Int) : Int := if dirty f a = true then 1 else 0
def nd (f : List Bk) : Int := d1 f 1 + d1 f 2 + d1 f 3 + d1 f 4 + d1 f 5 + d1 f 6
theorem d1_le {f g : List Bk} {a : Int} (h : dirty g a = true → dirty f a = true) : d1 g a ≤ d1 f a := by
  unfold d1
  by_cases e : dirty g a = true
  · rw [if_pos e, if_pos (h e)]; exact Int.le_refl _
  · rw [if_neg e]; split <;> omega
theorem d1_1 (f : List Bk) (a : Int) : 0 ≤ d1 f a ∧ d1 f a ≤ 1 := by unfold d1; split <;> omega
theorem nd_le {f g : List Bk} (h : ∀ a, dirty g a = true → dirty f a = true) : nd g ≤ nd f := by
  unfold nd
  have := d1_le (h 1); have := d1_le (h 2); have := d1_le (h 3); have := d1_le (h 4); have := d1_le (h 5); have := d1_le (h 6)
  omega
theorem nd_one {f g : List Bk} {a : Int} (ha : 1 ≤ a ∧ a ≤ 6) (h : ∀ b, b ≠ a → dirty g b = true → dirty f b = true) : nd g ≤ nd f + d1 g a - d1 f a := by
  have key : ∀ b : Int, d1 g b ≤ d1 f b + (if b = a then d1 g a - d1 f a else 0) := fun b => by
    split
    · rename_i e; rw [e]; omega
    · rename_i e; have := d1_le (h b e); omega
  unfold nd
  have k1 := key 1; have k2 := key 2; have k3 := key 3; have k4 := key 4; have k5 := key 5; have k6 := key 6
  rcases (show a = 1 ∨ a = 2 ∨ a = 3 ∨ a = 4 ∨ a = 5 ∨ a = 6 by omega) with rfl | rfl | rfl | rfl | rfl | rfl <;>
  · simp at k1 k2 k3 k4 k5 k6; omega
theorem nd_nn (f : List Bk) : 0 ≤ nd f := by
  unfold nd
  have := d1_1 f 1; have := d1_1 f 2; have := d1_1 f 3; have := d1_1 f 4; have := d1_1 f 5; have := d1_1 f 6
  omega
theorem clean_d1 {f : List Bk} {a : Int} (h : dirty f a = false) : d1 f a = 0 := by unfold d1; rw [h]; rfl
theorem dirty_d1 {f : List Bk} {a : Int} (h : dirty f a = true) : d1 f a = 1 := by unfold d1; rw [h]; rfl
theorem clean_of_two {f : List Bk} {a n v : Int} (h : last f a = ⟨2, n, a, v⟩) : dirty f a = false := by unfold dirty; rw [h]; simp
/-- one flush of all -/
structure Flu (s t : St) (a : Int) : Prop where
  ok : Okay t
  same : Same s t
  nx : next t.flash ≤ next s.flash + 1
  pn : next t.flash + nd t.flash ≤ next s.flash + nd s.flash
  pw : wearS t.flash + nd t.flash ≤ wearS s.flash + nd s.flash
  drt : ∀ b, dirty t.flash b = true → dirty s.flash b = true
  dsk : ∀ c : Int, 1 ≤ c → c ≤ 6 → dk t c = dk s c ∨ dk t c = readV s c
  gone : next s.flash ≤ 600 → wearS s.flash < 200 → dirty t.flash a = false
theorem flush_can {s : St} (h : Okay s) {a : Int} (ha : 1 ≤ a ∧ a ≤ 6) (hn : next s.flash ≤ 600) (hw : wearS s.flash < 200) (hd : dirty s.flash a = true) : flush s a ≠ [] := by
  have hv := h.vals ha.1 ha.2
  unfold valB at hv
  simp at hv
  have hw := wr_can h hn hw (k := 2) (a := a) (v := readV s a) (.inr rfl) ha hv
  unfold flush addrB
  rw [if_neg (by rw [hd]; simp; omega), if_neg hw]
  simp
theorem doFlush_flu {s : St} (h : Okay s) {a : Int} (ha : 1 ≤ a ∧ a ≤ 6) : Flu s (doFlush s a) a := by
  by_cases hne : flush s a = []
  · have e : doFlush s a = s := by unfold doFlush; rw [hne, doTo_nil]
    rw [e]
    refine ⟨h, Same.refl s, by omega, by omega, by omega, fun _ h => h, fun _ _ _ => .inl rfl, fun h1 h2 => ?_⟩
    by_cases hd : dirty s.flash a = true
    · exact absurd hne (flush_can h ha h1 h2 hd)
    · simpa using hd
  · have hs := ((flush_safe h hne).to ((flush s a).length : Nat) false).1 (by simp)
    change Flushed s a (doFlush s a) at hs
    obtain ⟨_, hd, _, _⟩ := flush_parts hne
    obtain ⟨hf, hk⟩ := hs
    have hg := clean_of_two hf.rec_
    have n1 := nd_one ha hf.drt
    rw [clean_d1 hg, dirty_d1 hd] at n1
    have := hf.nx
    have := hf.wear
    refine ⟨hf.ok, fun b b1 b2 => ?_, by omega, by omega, by omega, fun b hb => ?_, hf.dsk, fun _ _ => hg⟩
    · rw [hf.read b b1 b2]
      split
      · rename_i e; rw [e]
      · rfl
    · by_cases e : b = a
      · rw [e, hg] at hb; cases hb
      · exact hf.drt b e hb
structure Alls (s t : St) (l : List Int) : Prop where
  ok : Okay t
  same : Same s t
  nx : next t.flash ≤ next s.flash + l.length
  pn : next t.flash + nd t.flash ≤ next s.flash + nd s.flash
  pw : wearS t.flash + nd t.flash ≤ wearS s.flash + nd s.flash
  drt : ∀ b, dirty t.flash b = true → dirty s.flash b = true
  dsk : ∀ c : Int, 1 ≤ c → c ≤ 6 → dk t c = dk s c ∨ dk t c = readV s c
  gone : next s.flash + nd s.flash ≤ 600 → wearS s.flash + nd s.flash < 200 → ∀ a ∈ l, dirty t.flash a = false
theorem Alls.step {s t : St} {l : List Int} (h : Alls s t l) {a : Int} (ha : 1 ≤ a ∧ a ≤ 6) : Alls s (doFlush t a) (l ++ [a]) := by
  have f := doFlush_flu h.ok ha
  have h1 := h.pn; have h2 := h.pw; have h3 := h.nx; have f1 := f.pn; have f2 := f.pw; have f3 := f.nx
  have n0 := nd_nn t.flash
  refine ⟨f.ok, h.same.trans f.same, by simp; omega, by omega, by omega, fun b hb => h.drt b (f.drt b hb), fun c c1 c2 => ?_, fun g1 g2 b hb => ?_⟩
  · rcases f.dsk c c1 c2 with e | e
    · rw [e]; exact h.dsk c c1 c2
    · rw [e]; exact .inr (h.same c c1 c2)
  · rcases List.mem_append.1 hb with hb | hb
    · have := h.gone g1 g2 b hb
      by_cases e : dirty (doFlush t a).flash b = true
      · rw [f.drt b e] at this; cases this
      · simpa using e
    · rw [List.mem_singleton] at hb
      subst hb
      exact f.gone (by omega) (by omega)
theorem doEvery_alls {s : St} (h : Okay s) : Alls s (doEvery s) [1, 2, 3, 4, 5, 6] := by
  have h0 : Alls s s [] := ⟨h, Same.refl s, by simp, by omega, by omega, fun _ h => h, fun _ _ _ => .inl rfl, fun _ _ a ha => by cases ha⟩
  have k := (((((h0.step (a := 1) (by omega)).step (a := 2) (by omega)).step (a := 3) (by omega)).step (a := 4) (by omega)).step (a := 5) (by omega)).step (a := 6) (by omega)
  have e : doEvery s = doFlush (doFlush (doFlush (doFlush (doFlush (doFlush s 1) 2) 3) 4) 5) 6 := by unfold doEvery; simp only [List.foldl_cons, List.foldl_nil]
  rw [e]
  exact k
/-- what an event does -/
structure Evt (s : St) (e : Ev) (t : St) : Prop where
  ok : Okay t
  vals : ∀ b : Int, 1 ≤ b → b ≤ 6 → readV t b = readV s b ∨ (e.kind = 1 ∧ 0 ≤ e.c ∧ b = e.a ∧ readV t b = e.b)
  dsk : ∀ c : Int, 1 ≤ c → c ≤ 6 → dk t c = dk s c ∨ dk t c = readV s c
  nx : next t.flash ≤ next s.flash + (if e.kind = 4 then 6 else 1)
  pn : next t.flash + nd t.flash ≤ next s.flash + nd s.flash + 2
  pw : wearS t.flash + nd t.flash ≤ wearS s.flash + nd s.flash + 2
  full : e.kind = 1 → 6 ≤ e.c → (1 ≤ e.a ∧ e.a ≤ 6) → (0 ≤ e.b ∧ e.b ≤ 9) → next s.flash ≤ 600 → wearS s.flash < 200 → readV t e.a = e.b
  all : e.kind = 4 → next s.flash + nd s.flash ≤ 600 → wearS s.flash + nd s.flash < 200 → ∀ a : Int, 1 ≤ a → a ≤ 6 → dirty t.flash a = false
  zero : e.kind ≠ 4 → e.c ≤ 0 → Same s t
theorem Evt.none {s : St} {e : Ev} (h : Okay s) (h4 : e.kind ≠ 4) (hf : e.kind = 1 → 6 ≤ e.c → (1 ≤ e.a ∧ e.a ≤ 6) → (0 ≤ e.b ∧ e.b ≤ 9) → next s.flash ≤ 600 → wearS s.flash < 200 → False) : Evt s e s :=
  ⟨h, fun _ _ _ => .inl rfl, fun _ _ _ => .inl rfl, by rw [if_neg h4]; omega, by omega, by omega, fun h1 h2 h3 h5 h6 h7 => (hf h1 h2 h3 h5 h6 h7).elim, fun e => absurd e h4, fun _ _ => Same.refl s⟩
theorem wr_len6 {s : St} (h : Okay s) (k a v : Int) : (wr s.flash k a v).length ≤ 6 := wr_len (flashOk_len h.flash) (fun b hb => (bk_parts h.flash hb).1) k a v
theorem doEv_evt {s : St} (h : Okay s) (e : Ev) : Evt s e (doEv s e) := by
  unfold doEv
  by_cases h4 : e.kind = 4
  · rw [if_pos h4]
    have a := doEvery_alls h
    have h1 := a.nx; have h2 := a.pn; have h3 := a.pw
    simp at h1
    refine ⟨a.ok, fun b b1 b2 => .inl (a.same b b1 b2), a.dsk, by rw [if_pos h4]; omega, by omega, by omega, fun e => by omega, fun _ g1 g2 b b1 b2 => a.gone g1 g2 b ?_, fun e => absurd h4 e⟩
    rcases (show b = 1 ∨ b = 2 ∨ b = 3 ∨ b = 4 ∨ b = 5 ∨ b = 6 by omega) with rfl | rfl | rfl | rfl | rfl | rfl <;> simp
  · rw [if_neg h4]
    by_cases hc : e.c < 0
    · rw [if_pos hc]
      exact Evt.none h h4 (fun _ _ => by omega)
    · rw [if_neg hc]
      by_cases hne : stepsOf s e = []
      · rw [hne, doTo_nil]
        refine Evt.none h h4 (fun h1 h2 h3 h5 h6 h7 => ?_)
        unfold stepsOf at hne
        rw [if_pos h1] at hne
        exact wr_can h h6 h7 (.inl rfl) h3 h5 hne
      · have hS := (steps_safe h hne).to e.c e.torn
        by_cases hl : (stepsOf s e).length ≤ e.c.toNat
        · have hd := hS.1 hl
          have hf := hd.fin
          have hpos : 0 < (stepsOf s e).length := List.length_pos_iff.2 hne
          have hnx := hf.nx
          have hwe := hf.wear
          by_cases h1 : e.kind = 1
          · have hrd := hf.read
            unfold evVal at hrd
            rw [if_pos h1] at hrd
            have ha : 1 ≤ e.a ∧ e.a ≤ 6 := by
              unfold stepsOf at hne
              rw [if_pos h1] at hne
              exact (recOk_mk.1 (wr_iff.1 hne).2).2.2.1
            have n1 := nd_one ha hf.drt
            have := d1_1 (doTo s (stepsOf s e) e.c e.torn).flash e.a
            have := d1_1 s.flash e.a
            refine ⟨hf.ok, fun b b1 b2 => ?_, hf.dsk, by rw [if_neg h4]; omega, by omega, by omega, fun _ _ h3 _ _ _ => by rw [hrd _ h3.1 h3.2, if_pos rfl], fun e => absurd e h4, fun _ g => by omega⟩
            rw [hrd b b1 b2]
            by_cases e1 : b = e.a
            · rw [if_pos e1]; exact .inr ⟨h1, by omega, e1, rfl⟩
            · rw [if_neg e1]; exact .inl rfl
          · have hrd := hf.read
            have hrc := hf.rec_
            unfold evVal at hrd hrc
            unfold evKind at hrc
            rw [if_neg h1] at hrd hrc
            rw [if_neg h1] at hrc
            have hsame : Same s (doTo s (stepsOf s e) e.c e.torn) := fun b b1 b2 => by
              rw [hrd b b1 b2]
              split
              · rename_i q; rw [q]
              · rfl
            have hg := clean_of_two hrc
            have hdr : ∀ b, dirty (doTo s (stepsOf s e) e.c e.torn).flash b = true → dirty s.flash b = true := fun b hb => by
              by_cases q : b = e.a
              · rw [q, hg] at hb; cases hb
              · exact hf.drt b q hb
            have := nd_le hdr
            exact ⟨hf.ok, fun b b1 b2 => .inl (hsame b b1 b2), hf.dsk, by rw [if_neg h4]; omega, by omega, by omega, fun q => absurd q h1, fun q => absurd q h4, fun _ _ => hsame⟩
        · have hm := hS.2 (by omega)
          have := nd_le hm.drt
          have h1 := hm.nx; have h2 := hm.wear
          refine ⟨hm.ok, fun b b1 b2 => .inl (hm.same b b1 b2), hm.dsk, by rw [if_neg h4]; omega, by omega, by omega, fun q q2 => ?_, fun q => absurd q h4, fun _ _ => hm.same⟩
          exfalso
          unfold stepsOf at hl
          rw [if_pos q] at hl
          have := wr_len6 h 1 e.a e.b
          omega
end Go.Proofs.Ytbekihiiildgmaa
namespace Go.Proofs.Ytbekihiiildgmaa
set_option linter.unusedVariables false
set_option linter.unusedSimpArgs false
/-- a step that is one -/
def stepB (x : Sp) : Bool :=
  if x.kind = 1 then decide (x.block = 0) && (decide (x.rc = rc0) && (addrB x.addr && valB x.val))
  else if x.kind = 2 then decide (x.addr = 0) && (decide (x.val = 0) && (decide (x.rc = rc0) && blockB x.block))
  else if x.kind = 3 then decide (x.addr = 0) && (decide (x.val = 0) && (blockB x.block && recOk x.rc)) else false
def allB (xs : List Sp) : Bool := xs.all stepB
theorem addrB_iff {a : Int} : addrB a = true ↔ 1 ≤ a ∧ a ≤ 6 := by unfold addrB; simp
theorem valB_iff {a : Int} : valB a = true ↔ 0 ≤ a ∧ a ≤ 9 := by unfold valB; simp
theorem blockB_iff {a : Int} : blockB a = true ↔ 0 ≤ a ∧ a < 4 := by unfold blockB; simp
theorem allB_iff {xs : List Sp} : allB xs = true ↔ ∀ x ∈ xs, stepB x = true := by unfold allB; simp
/-- a step leaves the flash ok -/
theorem stepB_wipes {x : Sp} (h : stepB x = true) (hk : x.kind = 2) : x.addr = 0 ∧ x.val = 0 ∧ x.rc = rc0 ∧ 0 ≤ x.block ∧ x.block < 4 := by
  unfold stepB at h
  rw [if_neg (by omega), if_pos hk] at h
  simp only [Bool.and_eq_true, decide_eq_true_iff] at h
  exact ⟨h.1, h.2.1, h.2.2.1, blockB_iff.1 h.2.2.2⟩
theorem stepB_writes {x : Sp} (h : stepB x = true) (hk : x.kind = 3) : x.addr = 0 ∧ x.val = 0 ∧ (0 ≤ x.block ∧ x.block < 4) ∧ recOk x.rc = true := by
  unfold stepB at h
  rw [if_neg (by omega), if_neg (by omega), if_pos hk] at h
  simp only [Bool.and_eq_true, decide_eq_true_iff] at h
  exact ⟨h.1, h.2.1, blockB_iff.1 h.2.2.1, h.2.2.2⟩
theorem stepB_tells {x : Sp} (h : stepB x = true) (hk : x.kind = 1) : x.block = 0 ∧ x.rc = rc0 ∧ (1 ≤ x.addr ∧ x.addr ≤ 6) ∧ valB x.val = true := by
  unfold stepB at h
  rw [if_pos hk] at h
  simp only [Bool.and_eq_true, decide_eq_true_iff] at h
  exact ⟨h.1, h.2.1, addrB_iff.1 h.2.2.1, h.2.2.2⟩
theorem stepB_kind {x : Sp} (h : stepB x = true) : x.kind = 1 ∨ x.kind = 2 ∨ x.kind = 3 := by
  unfold stepB at h
  by_cases h1 : x.kind = 1
  · exact .inl h1
  · by_cases h2 : x.kind = 2
    · exact .inr (.inl h2)
    · by_cases h3 : x.kind = 3
      · exact .inr (.inr h3)
      · rw [if_neg h1, if_neg h2, if_neg h3] at h; cases h
theorem wipeR_ok {f : List Bk} (h : flashOk f = true) {i : Nat} (hi : i < 4) (torn : Bool) : flashOk (wipeR f i torn).1 = true := by
  unfold wipeR
  split
  · exact h
  · exact wiped_ok h hi torn (by omega)
theorem writeR_put {f : List Bk} {i : Nat} {b : Bk} (hb : f[i]? = some b) (r : Rc) (torn : Bool) : writeR f i r torn = if clean b = 0 ∨ seqIn f r.seq = true then (f, false) else (f.set i (putBk b r torn), true) := by
  unfold writeR
  rw [getD_of hb]
  rfl
theorem writeR_ok {f : List Bk} (h : flashOk f = true) {i : Nat} (hi : i < 4) {r : Rc} (hr : recOk r = true) (torn : Bool) : flashOk (writeR f i r torn).1 = true := by
  obtain ⟨b, hb⟩ := get_some (l := f) (k := i) (by rw [flashOk_len h]; exact hi)
  rw [writeR_put hb]
  split
  · exact h
  · rename_i hc
    exact put_ok4 h hb hr torn (fun e => hc (.inl e)) (fun e => hc (.inr e))
theorem doStep_ok {s : St} (h : flashOk s.flash = true) {x : Sp} (hx : stepB x = true) (torn : Bool) : flashOk (doStep s x torn).flash = true := by
  unfold doStep
  split
  · split <;> exact h
  · split
    · rename_i hk
      have := stepB_wipes hx hk
      exact wipeR_ok h (by omega) torn
    · split
      · rename_i hk
        have := stepB_writes hx hk
        exact writeR_ok h (by omega) this.2.2.2 torn
      · exact h
theorem doStep_disk (s : St) (x : Sp) (torn : Bool) : (doStep s x torn).disk.length = s.disk.length := by
  unfold doStep
  split
  · split
    · rfl
    · simp
  · split
    · rfl
    · split <;> rfl
theorem doAllOf_ok : ∀ {xs : List Sp} {s : St}, flashOk s.flash = true → (∀ x ∈ xs, stepB x = true) → flashOk (doAllOf s xs).flash = true
  | [], _, h, _ => h
  | x :: xs, s, h, hx => doAllOf_ok (s := doStep s x false) (doStep_ok h (hx x (List.mem_cons_self ..)) false) (fun y hy => hx y (List.mem_cons_of_mem _ hy))
theorem doAllOf_disk : ∀ (xs : List Sp) (s : St), (doAllOf s xs).disk.length = s.disk.length
  | [], _ => rfl
  | x :: xs, s => (doAllOf_disk xs (doStep s x false)).trans (doStep_disk s x false)
theorem Okay.fine {s : St} (h : Okay s) : stFine s := ⟨flFine_of h.flash, h.len, fun v hv => by
  obtain ⟨k, hk⟩ := List.getElem?_of_mem hv
  have hl := (List.getElem?_eq_some_iff.1 hk).1
  have := h.val ((k : Int) + 1) (by omega) (by have := h.len; omega)
  rw [dk_at hk] at this
  exact valB_iff.1 this⟩
/-- plays -/
def new0 : St := ⟨flashNew, disk0⟩
theorem new_okay : Okay new0 := storeOk_iff.1 new_ok
structure Run (n : Nat) (t : St) : Prop where
  ok : Okay t
  pn : next t.flash + nd t.flash ≤ 1 + 2 * n
  pw : wearS t.flash + nd t.flash ≤ 2 * n
theorem Run.step {n : Nat} {t : St} (h : Run n t) (e : Ev) : Run (n + 1) (doEv t e) := by
  have k := doEv_evt h.ok e
  have h1 := h.pn; have h2 := h.pw; have k1 := k.pn; have k2 := k.pw
  exact ⟨k.ok, by omega, by omega⟩
theorem Run.new : Run 0 new0 := ⟨new_okay, by decide, by decide⟩
theorem Run.small {n : Nat} {t : St} (h : Run n t) (hn : n ≤ 99) : next t.flash ≤ 600 ∧ wearS t.flash < 200 ∧ next t.flash + nd t.flash ≤ 600 ∧ wearS t.flash + nd t.flash < 200 := by
  have h1 := h.pn; have h2 := h.pw; have h3 := nd_nn t.flash
  omega
end Go.Proofs.Ytbekihiiildgmaa
namespace Go.Proofs.Ytbekihiiildgmaa
set_option linter.unusedVariables false
set_option linter.unusedSimpArgs false
/-- the slow disk has what was put -/
def isPutV (a v : Int) (e : Ev) : Bool := decide (e.kind = 1) && (decide (e.a = a) && decide (e.b = v))
def wasPut (es : List Ev) (a v : Int) : Prop := v = 0 ∨ es.any (isPutV a v) = true
theorem wasPut.more {es : List Ev} {a v : Int} (h : wasPut es a v) (e : Ev) : wasPut (es ++ [e]) a v := by
  rcases h with h | h
  · exact .inl h
  · exact .inr (by rw [List.any_append, h]; rfl)
/-- whole events -/
def wholeEv (e : Ev) : Ev := { e with c := 60, torn := false }
end Go.Proofs.Ytbekihiiildgmaa
open Go.RowKit Go.IntWalk Go.Maps
namespace Go.Proofs.Ytbekihiiildgmaa
set_option linter.unusedVariables false
set_option linter.unusedSimpArgs false
set_option maxHeartbeats 1000000
theorem Try.info_int1 : (Try.prog.info? 3).map (·.size) = some 1 := by kernel_rfl
theorem ints_one (xs : List Int) : ∀ v ∈ ints xs, v.oneCell' = true := fun v hv => by
  unfold ints at hv
  obtain ⟨x, _, rfl⟩ := List.mem_map.1 hv
  rfl
theorem cellP {w : World} {b i : Nat} {u : Value} (h : w.cell? ⟨b, i, none⟩ = some u) (o : Obj) : (w.alloc o).cell? ⟨b, i, none⟩ = some u := (World.cell?_of_block (a := ⟨b, i, none⟩) (Below.heap_alloc w o b (lt_of_cell h))).trans h
theorem fzP {w : World} {b i : Nat} {u : Bool} (hb : b < w.heap.size) (h : w.frozen? ⟨b, i, none⟩ = u) (o : Obj) : (w.alloc o).frozen? ⟨b, i, none⟩ = u := (World.frozen?_of_block (a := ⟨b, i, none⟩) (Below.heap_alloc w o b hb)).trans h
def StPost (s : St) (w : World) (e : Ending) (w' : World) : Prop :=
  ∃ g d, e = .returned (.agg #[.slice (some ⟨g, 0, none⟩) 4 4, .slice (some ⟨d, 0, none⟩) 6 6]) ∧ OSt w' w.heap.size w'.heap.size (some ⟨g, 0, none⟩) s.flash (some ⟨d, 0, none⟩) s.disk ∧ Below w.heap.size w w'
theorem impl_storeCopy (s : St) (A D : Option Addr) (c d : Nat) (w : World) (hs : stFine s) (hF : Fl w A s.flash) (hD : Row w D (ints s.disk)) :
    Calls Try.prog 77 #[.agg #[.slice A 4 c, .slice D 6 d]] w (StPost s w) := by
  obtain ⟨db, dO, rfl⟩ := hD.addr (ints_ne' (by intro e; have := hs.2.1; rw [e] at this; simp at this))
  have HL := Lib.hid hs.1.1
  have HP := Lib.hid (stFine_pages hs)
  have hlen : (ints s.disk).length = 6 := by rw [ints_len, hs.2.1]
  clear hs
  have hmk := make_disk
  have hR0 : Row (((w.alloc (.cells #[.slice A 4 c, .slice (some ⟨db, dO, none⟩) 6 d] 26)).alloc (.cells #[.slice none 0 0, .slice none 0 0] 26)).alloc (.cells #[.int .i64 0, .int .i64 0, .int .i64 0, .int .i64 0, .int .i64 0, .int .i64 0] 3)) (some ⟨w.heap.size + 1 + 1, 0, none⟩) (ints disk0) := by
    have := Row.new ((w.alloc (.cells #[.slice A 4 c, .slice (some ⟨db, dO, none⟩) 6 d] 26)).alloc (.cells #[.slice none 0 0, .slice none 0 0] 26)) #[.int .i64 0, .int .i64 0, .int .i64 0, .int .i64 0, .int .i64 0, .int .i64 0] 3
    simp only [World.size_alloc] at this
    exact this
  have hc : ∀ j, j < 6 → ∃ u, (((w.alloc (.cells #[.slice A 4 c, .slice (some ⟨db, dO, none⟩) 6 d] 26)).alloc (.cells #[.slice none 0 0, .slice none 0 0] 26)).alloc (.cells #[.int .i64 0, .int .i64 0, .int .i64 0, .int .i64 0, .int .i64 0, .int .i64 0] 3)).cell? ⟨w.heap.size + 1 + 1, 0 + j, none⟩ = some u ∧ (((w.alloc (.cells #[.slice A 4 c, .slice (some ⟨db, dO, none⟩) 6 d] 26)).alloc (.cells #[.slice none 0 0, .slice none 0 0] 26)).alloc (.cells #[.int .i64 0, .int .i64 0, .int .i64 0, .int .i64 0, .int .i64 0, .int .i64 0] 3)).frozen? ⟨w.heap.size + 1 + 1, 0 + j, none⟩ = false := fun j hj => by
    obtain ⟨b', o', he, hc⟩ := hR0 (by simp [ints, disk0])
    cases he
    obtain ⟨u, hu⟩ := get_some (l := ints disk0) (k := j) (by rw [ints_len]; exact hj)
    exact ⟨u, hc j u hu⟩
  obtain ⟨b', o', he, hc'⟩ := (((hD.alloc (.cells #[.slice A 4 c, .slice (some ⟨db, dO, none⟩) 6 d] 26)).alloc (.cells #[.slice none 0 0, .slice none 0 0] 26)).alloc (.cells #[.int .i64 0, .int .i64 0, .int .i64 0, .int .i64 0, .int .i64 0, .int .i64 0] 3)) (by intro e; rw [e] at hlen; simp at hlen)
  cases he
  have hcp := run_copy_n (P := Try.prog) (((w.alloc (.cells #[.slice A 4 c, .slice (some ⟨db, dO, none⟩) 6 d] 26)).alloc (.cells #[.slice none 0 0, .slice none 0 0] 26)).alloc (.cells #[.int .i64 0, .int .i64 0, .int .i64 0, .int .i64 0, .int .i64 0, .int .i64 0] 3)) 24 24 3 3 1 (w.heap.size + 1 + 1) 0 6 6 ⟨db, dO, none⟩ 6 d 6 (ints s.disk) Try.underlying24 Try.info_int1 rfl hlen
    (fun j v hj => by rw [addr_add]; exact (hc' j v hj).1) (fun j hj => by obtain ⟨u, hu, _⟩ := hc j (by omega); rw [hu]; rfl) (fun j hj => by obtain ⟨u, _, hu⟩ := hc j (by omega); exact hu) (ints_one s.disk)
  have hW := wrote_setRow (w.heap.size + 1 + 1) (ints s.disk) 0 (((w.alloc (.cells #[.slice A 4 c, .slice (some ⟨db, dO, none⟩) 6 d] 26)).alloc (.cells #[.slice none 0 0, .slice none 0 0] 26)).alloc (.cells #[.int .i64 0, .int .i64 0, .int .i64 0, .int .i64 0, .int .i64 0, .int .i64 0] 3)) (fun j hj => by obtain ⟨u, hu, _⟩ := hc j (by omega); exact ⟨u, hu⟩)
  have hB0 : Below w.heap.size w (((w.alloc (.cells #[.slice A 4 c, .slice (some ⟨db, dO, none⟩) 6 d] 26)).alloc (.cells #[.slice none 0 0, .slice none 0 0] 26)).alloc (.cells #[.int .i64 0, .int .i64 0, .int .i64 0, .int .i64 0, .int .i64 0, .int .i64 0] 3)) := by (repeat (first | (with_reducible exact Below.refl _ _) | (with_reducible assumption) | (refine Below.setCell ?_ (by first | omega | exact hB.size | exact hb.size | (have h := hB.size; simp; omega) | (have h := hb.size; simp; omega) | (simp; omega) | simp) _) | (refine Below.alloc ?_ (by first | omega | exact hB.size | exact hb.size | (have h := hB.size; simp; omega) | (have h := hb.size; simp; omega) | (simp; omega) | simp) _) | (refine Below.drew ?_)))
  have b0 : (((w.alloc (.cells #[.slice A 4 c, .slice (some ⟨db, dO, none⟩) 6 d] 26)).alloc (.cells #[.slice none 0 0, .slice none 0 0] 26)).alloc (.cells #[.int .i64 0, .int .i64 0, .int .i64 0, .int .i64 0, .int .i64 0, .int .i64 0] 3)).cell? ⟨w.heap.size, 0, none⟩ = some (.slice A 4 c) := cellP (by simp) _
  have r0 : (((w.alloc (.cells #[.slice A 4 c, .slice (some ⟨db, dO, none⟩) 6 d] 26)).alloc (.cells #[.slice none 0 0, .slice none 0 0] 26)).alloc (.cells #[.int .i64 0, .int .i64 0, .int .i64 0, .int .i64 0, .int .i64 0, .int .i64 0] 3)).cell? ⟨w.heap.size + 1, 0, none⟩ = some (.slice none 0 0) := cellP (by simp) _
  have r1 : (((w.alloc (.cells #[.slice A 4 c, .slice (some ⟨db, dO, none⟩) 6 d] 26)).alloc (.cells #[.slice none 0 0, .slice none 0 0] 26)).alloc (.cells #[.int .i64 0, .int .i64 0, .int .i64 0, .int .i64 0, .int .i64 0, .int .i64 0] 3)).cell? ⟨w.heap.size + 1, 1, none⟩ = some (.slice none 0 0) := cellP (by simp) _
  have q0 : (((w.alloc (.cells #[.slice A 4 c, .slice (some ⟨db, dO, none⟩) 6 d] 26)).alloc (.cells #[.slice none 0 0, .slice none 0 0] 26)).alloc (.cells #[.int .i64 0, .int .i64 0, .int .i64 0, .int .i64 0, .int .i64 0, .int .i64 0] 3)).frozen? ⟨w.heap.size + 1, 0, none⟩ = false := fzP (by simp) (by simp) _
  have q1 : (((w.alloc (.cells #[.slice A 4 c, .slice (some ⟨db, dO, none⟩) 6 d] 26)).alloc (.cells #[.slice none 0 0, .slice none 0 0] 26)).alloc (.cells #[.int .i64 0, .int .i64 0, .int .i64 0, .int .i64 0, .int .i64 0, .int .i64 0] 3)).frozen? ⟨w.heap.size + 1, 1, none⟩ = false := fzP (by simp) (by simp) _
  have hsz : (((w.alloc (.cells #[.slice A 4 c, .slice (some ⟨db, dO, none⟩) 6 d] 26)).alloc (.cells #[.slice none 0 0, .slice none 0 0] 26)).alloc (.cells #[.int .i64 0, .int .i64 0, .int .i64 0, .int .i64 0, .int .i64 0, .int .i64 0] 3)).heap.size = w.heap.size + 3 := by simp
  obtain ⟨W1, hW1⟩ : ∃ W1, (((w.alloc (.cells #[.slice A 4 c, .slice (some ⟨db, dO, none⟩) 6 d] 26)).alloc (.cells #[.slice none 0 0, .slice none 0 0] 26)).alloc (.cells #[.int .i64 0, .int .i64 0, .int .i64 0, .int .i64 0, .int .i64 0, .int .i64 0] 3)).setCells (w.heap.size + 1 + 1) 0 (ints s.disk) = W1 := ⟨_, rfl⟩
  rw [hW1] at hcp hW
  have hr1 : Row W1 (some ⟨w.heap.size + 1 + 1, 0, none⟩) (ints s.disk) := fun _ => ⟨_, _, rfl, fun j u hj => ⟨by have := hW.new_ j u hj; rw [Nat.zero_add] at this ⊢; exact this, by
    rw [hW.frozen]; have hjl := (List.getElem?_eq_some_iff.1 hj).1; obtain ⟨u', _, hu'⟩ := hc j (by omega); exact hu'⟩⟩
  have hs1 : W1.heap.size = w.heap.size + 3 := by rw [hW.size, hsz]
  have hB1 : Below w.heap.size w W1 := hB0.trans (hW.agr.below (by rw [hsz]; omega) (by rintro i rfl; omega))
  have cc : ∀ b o, b < w.heap.size + 2 → W1.cell? ⟨b, o, none⟩ = (((w.alloc (.cells #[.slice A 4 c, .slice (some ⟨db, dO, none⟩) 6 d] 26)).alloc (.cells #[.slice none 0 0, .slice none 0 0] 26)).alloc (.cells #[.int .i64 0, .int .i64 0, .int .i64 0, .int .i64 0, .int .i64 0, .int .i64 0] 3)).cell? ⟨b, o, none⟩ := fun b o hb => hW.agr.cell (by rw [hsz]; omega) (by omega) o
  have cf : ∀ b o, b < w.heap.size + 2 → W1.frozen? ⟨b, o, none⟩ = (((w.alloc (.cells #[.slice A 4 c, .slice (some ⟨db, dO, none⟩) 6 d] 26)).alloc (.cells #[.slice none 0 0, .slice none 0 0] 26)).alloc (.cells #[.int .i64 0, .int .i64 0, .int .i64 0, .int .i64 0, .int .i64 0, .int .i64 0] 3)).frozen? ⟨b, o, none⟩ := fun b o hb => hW.agr.fz (by rw [hsz]; omega) (by omega) o
  replace b0 := (cc _ _ (by omega)).trans b0
  replace r0 := (cc _ _ (by omega)).trans r0
  replace r1 := (cc _ _ (by omega)).trans r1
  replace q0 := (cf _ _ (by omega)).trans q0
  replace q1 := (cf _ _ (by omega)).trans q1
  clear cc cf hW hW1 hc hc' hB0 hsz hR0 hlen
  have hF1 : Fl W1 A s.flash := hF.below hB1 (Nat.le_refl _)
  go_enter Try.func77, Try.ntmps77
  go_wp2_with fail
  refine (impl_flashCopy A c s.flash _ HL.out HP.out hF1).mono ?_
  rintro e w2 ⟨g, rfl, hO, hb⟩
  have hz2 := hb.size
  replace r0 := (hb.cell (p := ⟨w.heap.size + 1, 0, none⟩) (by show w.heap.size + 1 < _; omega)).trans r0
  replace r1 := (hb.cell (p := ⟨w.heap.size + 1, 1, none⟩) (by show w.heap.size + 1 < _; omega)).trans r1
  replace q0 := (hb.frozen (p := ⟨w.heap.size + 1, 0, none⟩) (by show w.heap.size + 1 < _; omega)).trans q0
  replace q1 := (hb.frozen (p := ⟨w.heap.size + 1, 1, none⟩) (by show w.heap.size + 1 < _; omega)).trans q1
  have hr2 := hr1.below hb (Nat.le_refl _)
  have hB2 := hB1.trans (hb.mono (by omega))
  have hz : w.heap.size + 1 < w2.heap.size := by omega
  clear hb hr1 hB1 hF1 hcp
  go_wp2
  refine bodyPost_ret (v := .agg #[.slice (some ⟨g, 0, none⟩) 4 4, .slice (some ⟨w.heap.size + 1 + 1, 0, none⟩) 6 6]) (by simp [results, Try.results77, go_sem, hz, r0, r1]) rfl ⟨_, _, rfl, ?_, ?_⟩
  · refine OSt.mk' (lf := W1.heap.size) (hf := w2.heap.size) (hO.keep fun b h1 h2 hl => ?_) (hr2.keep fun b hb hl => ?_) (by omega) (by simp) (by omega) (by simp; omega) (.inl (by omega))
    · rw [Below.heap_setCell _ _ _ _ (by simp; omega), Below.heap_setCell _ _ _ _ (by simp; omega)]
    · rw [blk_some] at hb
      rw [Below.heap_setCell _ _ _ _ (by simp; omega), Below.heap_setCell _ _ _ _ (by simp; omega)]
  · refine Below.setCell (Below.setCell hB2 ?_ _) ?_ _ <;> (show w.heap.size ≤ w.heap.size + 1; omega)
theorem impl_stepOk (x : Sp) (w : World) : Calls Try.prog 75 #[.agg #[.int .i64 x.kind, .int .i64 x.addr, .int .i64 x.val, .int .i64 x.block, .int .i64 x.rc.kind, .int .i64 x.rc.seq, .int .i64 x.rc.addr, .int .i64 x.rc.val]] w fun e w' => e = .returned (.bool (stepB x)) ∧ Below w.heap.size w w' := by
  obtain ⟨k, a, v, b, ⟨rk, rs, ra, rv⟩⟩ := x
  dsimp only
  by_cases h1 : k = 1
  · subst h1
    have hq : Hid (stepB ⟨1, a, v, b, ⟨rk, rs, ra, rv⟩⟩ = (decide (b = 0) && (decide ((⟨rk, rs, ra, rv⟩ : Rc) = rc0) && (addrB a && valB v)))) := rfl
    go_enter Try.func75, Try.ntmps75
    go_wp2_with (first | (go_at_call 87; refine (impl_addrOk _ _).mono ?_; rintro e w' ⟨rfl, rfl⟩) | (go_at_call 70; refine (impl_valOk _ _).mono ?_; rintro e w' ⟨rfl, rfl⟩))
    all_goals (go_ret; exact ⟨ret_bool (by rw [hq.out]; simp [rc0, *] <;> (intros; omega)), (Below.refl _ _).alloc (Nat.le_refl _) _⟩)
  by_cases h2 : k = 2
  · subst h2
    have hq : Hid (stepB ⟨2, a, v, b, ⟨rk, rs, ra, rv⟩⟩ = (decide (a = 0) && (decide (v = 0) && (decide ((⟨rk, rs, ra, rv⟩ : Rc) = rc0) && blockB b)))) := rfl
    go_enter Try.func75, Try.ntmps75
    go_wp2_with (first | (go_at_call 119; refine (impl_blockOk _ _).mono ?_; rintro e w' ⟨rfl, rfl⟩))
    all_goals (go_ret; exact ⟨ret_bool (by rw [hq.out]; simp [rc0, *] <;> (intros; omega)), (Below.refl _ _).alloc (Nat.le_refl _) _⟩)
  by_cases h3 : k = 3
  · subst h3
    have hq : Hid (stepB ⟨3, a, v, b, ⟨rk, rs, ra, rv⟩⟩ = (decide (a = 0) && (decide (v = 0) && (blockB b && recOk ⟨rk, rs, ra, rv⟩)))) := rfl
    have hB : Below w.heap.size w (w.alloc (.cells #[.int .i64 3, .int .i64 a, .int .i64 v, .int .i64 b, .int .i64 rk, .int .i64 rs, .int .i64 ra, .int .i64 rv] 47)) := (Below.refl _ _).alloc (Nat.le_refl _) _
    go_enter Try.func75, Try.ntmps75
    go_wp2_with (first | (go_at_call 119; refine (impl_blockOk _ _).mono ?_; rintro e w' ⟨rfl, rfl⟩) | (go_at_call 120; refine (impl_RecOk ⟨rk, rs, ra, rv⟩ _).mono ?_; rintro e w' ⟨rfl, hb⟩))
    all_goals (go_ret; refine ⟨ret_bool (by rw [hq.out]; simp [rc0, *]), ?_⟩; first | exact ((Below.refl _ _).alloc (Nat.le_refl _) _).trans (hb.mono (by simp)) | exact (Below.refl _ _).alloc (Nat.le_refl _) _)
  have hq : Hid (stepB ⟨k, a, v, b, ⟨rk, rs, ra, rv⟩⟩ = false) := by unfold Hid stepB; simp [h1, h2, h3]
  go_enter Try.func75, Try.ntmps75
  go_wp2
  go_ret
  exact ⟨ret_bool hq.out.symm, (Below.refl _ _).alloc (Nat.le_refl _) _⟩
theorem spec_l12Step (x : Sp) (w : World) : Calls Try.prog 82 #[.agg #[.int .i64 x.kind, .int .i64 x.addr, .int .i64 x.val, .int .i64 x.block, .int .i64 x.rc.kind, .int .i64 x.rc.seq, .int .i64 x.rc.addr, .int .i64 x.rc.val]] w fun e w' => e = .returned (.bool (stepB x)) ∧ Below w.heap.size w w' := by
  obtain ⟨k, a, v, b, ⟨rk, rs, ra, rv⟩⟩ := x
  dsimp only
  by_cases h1 : k = 1
  · subst h1
    have hq : Hid (stepB ⟨1, a, v, b, ⟨rk, rs, ra, rv⟩⟩ = (decide (b = 0) && (decide ((⟨rk, rs, ra, rv⟩ : Rc) = rc0) && ((decide (1 ≤ a) && decide (a ≤ 6)) && (decide (0 ≤ v) && decide (v ≤ 9)))))) := rfl
    go_enter Try.func82, Try.ntmps82
    go_wp2_with (go_at_call 66; refine (spec_l6In _ _ _ _).mono ?_; rintro e w' ⟨rfl, rfl⟩)
    all_goals (go_ret; exact ⟨ret_bool (by rw [hq.out]; simp [rc0, *] <;> (intros; omega)), (Below.refl _ _).alloc (Nat.le_refl _) _⟩)
  by_cases h2 : k = 2
  · subst h2
    have hq : Hid (stepB ⟨2, a, v, b, ⟨rk, rs, ra, rv⟩⟩ = (decide (a = 0) && (decide (v = 0) && (decide ((⟨rk, rs, ra, rv⟩ : Rc) = rc0) && blockB b)))) := rfl
    have hbb : blockB b = (decide (0 ≤ b) && decide (b ≤ 3)) := by unfold blockB; congr 1; exact decide_eq_decide.2 (by omega)
    have HB := Lib.hid hbb
    clear hbb
    go_enter Try.func82, Try.ntmps82
    go_wp2_with (go_at_call 66; refine (spec_l6In _ _ _ _).mono ?_; rintro e w' ⟨rfl, rfl⟩)
    all_goals (go_ret; exact ⟨ret_bool (by rw [hq.out, HB.out]; simp [rc0, *] <;> (intros; omega)), (Below.refl _ _).alloc (Nat.le_refl _) _⟩)
  by_cases h3 : k = 3
  · subst h3
    have hq : Hid (stepB ⟨3, a, v, b, ⟨rk, rs, ra, rv⟩⟩ = (decide (a = 0) && (decide (v = 0) && (blockB b && recOk ⟨rk, rs, ra, rv⟩)))) := rfl
    have hbb : blockB b = (decide (0 ≤ b) && decide (b ≤ 3)) := by unfold blockB; congr 1; exact decide_eq_decide.2 (by omega)
    have HB := Lib.hid hbb
    clear hbb
    have hB : Below w.heap.size w (w.alloc (.cells #[.int .i64 3, .int .i64 a, .int .i64 v, .int .i64 b, .int .i64 rk, .int .i64 rs, .int .i64 ra, .int .i64 rv] 47)) := (Below.refl _ _).alloc (Nat.le_refl _) _
    go_enter Try.func82, Try.ntmps82
    go_wp2_with (first | (go_at_call 66; refine (spec_l6In _ _ _ _).mono ?_; rintro e w' ⟨rfl, rfl⟩) | (go_at_call 133; refine (spec_RecOk ⟨rk, rs, ra, rv⟩ _).mono ?_; rintro e w' ⟨rfl, hb⟩))
    all_goals (go_ret; refine ⟨ret_bool (by rw [hq.out, HB.out]; simp [rc0, *] <;> (intros; omega)), ?_⟩; first | exact ((Below.refl _ _).alloc (Nat.le_refl _) _).trans (hb.mono (by simp)) | exact (Below.refl _ _).alloc (Nat.le_refl _) _)
  have hq : Hid (stepB ⟨k, a, v, b, ⟨rk, rs, ra, rv⟩⟩ = false) := by unfold Hid stepB; simp [h1, h2, h3]
  go_enter Try.func82, Try.ntmps82
  go_wp2
  go_ret
  exact ⟨ret_bool hq.out.symm, (Below.refl _ _).alloc (Nat.le_refl _) _⟩
end Go.Proofs.Ytbekihiiildgmaa
open Go.RowKit Go.IntWalk Go.Maps
namespace Go.Proofs.Ytbekihiiildgmaa
set_option linter.unusedVariables false
set_option linter.unusedSimpArgs false
set_option maxHeartbeats 1000000
end Go.Proofs.Ytbekihiiildgmaa
namespace Go.Proofs.Ytbekihiiildgmaa
set_option linter.unusedVariables false
set_option linter.unusedSimpArgs false
open Go.RowKit Go.Maps
set_option maxHeartbeats 400000
theorem writeR_len (f : List Bk) (i : Nat) (r : Rc) (t : Bool) : (writeR f i r t).1.length = f.length := by
  unfold writeR; split <;> simp
set_option maxHeartbeats 4000000 in
set_option maxRecDepth 100000 in
theorem impl_FlashWrite (f : List Bk) (block : Int) (r : Rc) (torn : Bool) (A : Option Addr) (n c : Nat) (w : World) (hn : n = f.length) (hF : Fl w A f) :
    Calls Try.prog 125 #[.slice A n c, .int .i64 block, .agg #[.int .i64 r.kind, .int .i64 r.seq, .int .i64 r.addr, .int .i64 r.val], .bool torn] w (FlPost (flashWrite f block r torn) w) := by
  subst hn
  have hF0 := hF.alloc (.cells #[.int .i64 r.kind, .int .i64 r.seq, .int .i64 r.addr, .int .i64 r.val] 45)
  have hB0 : Below w.heap.size w (w.alloc (.cells #[.int .i64 r.kind, .int .i64 r.seq, .int .i64 r.addr, .int .i64 r.val] 45)) := by (repeat (first | (with_reducible exact Below.refl _ _) | (with_reducible assumption) | (refine Below.setCell ?_ (by first | omega | exact hB.size | exact hb.size | (have h := hB.size; simp; omega) | (have h := hb.size; simp; omega) | (simp; omega) | simp) _) | (refine Below.alloc ?_ (by first | omega | exact hB.size | exact hb.size | (have h := hB.size; simp; omega) | (have h := hb.size; simp; omega) | (simp; omega) | simp) _) | (refine Below.drew ?_)))
  have hq := Row.new w #[.int .i64 r.kind, .int .i64 r.seq, .int .i64 r.addr, .int .i64 r.val] 45
  obtain ⟨r0, _⟩ := hq.at0 (j := 0) rfl
  obtain ⟨r1, _⟩ := hq.at0 (j := 1) rfl
  obtain ⟨r2, _⟩ := hq.at0 (j := 2) rfl
  obtain ⟨r3, _⟩ := hq.at0 (j := 3) rfl
  have hs0 : w.heap.size < (w.alloc (.cells #[.int .i64 r.kind, .int .i64 r.seq, .int .i64 r.addr, .int .i64 r.val] 45)).heap.size := by simp
  have hfin : Hid (flashWrite f block r torn = if flashOk f = false ∨ blockB block = false ∨ recOk r = false then ([], false) else writeR f block.toNat r torn) := rfl
  clear hq
  go_enter Try.func125, Try.ntmps125
  go_wp2_with fail
  refine (impl_FlashOk f A c _ hF0).mono ?_
  rintro e w1 ⟨rfl, hb⟩
  replace r0 := (hb.cell (p := ⟨w.heap.size, 0, none⟩) hs0).trans r0
  replace r1 := (hb.cell (p := ⟨w.heap.size, 1, none⟩) hs0).trans r1
  replace r2 := (hb.cell (p := ⟨w.heap.size, 2, none⟩) hs0).trans r2
  replace r3 := (hb.cell (p := ⟨w.heap.size, 3, none⟩) hs0).trans r3
  have hF1 := hF0.below hb (Nat.le_refl _)
  have hs1 : w.heap.size < w1.heap.size := Nat.lt_of_lt_of_le hs0 hb.size
  have hB1 : Below w.heap.size w w1 := hB0.trans (hb.mono (by simp))
  clear hb hB0 hF0 hs0
  by_cases hok : flashOk f = true
  · rw [hok]
    have hl := flashOk_len hok
    have hsh := Lib.hid (flashOk_shape hok)
    have HL := Lib.hid hl
    go_wp2_with fail
    refine (impl_blockOk _ _).mono ?_
    rintro e w2 ⟨rfl, rfl⟩
    by_cases hbo : blockB block = true
    · rw [hbo]
      have hb04 : 0 ≤ block ∧ block < 4 := by unfold blockB at hbo; simpa using hbo
      obtain ⟨i, rfl⟩ := Int.eq_ofNat_of_zero_le hb04.1
      have hi4 : i < 4 := by omega
      obtain ⟨B, hB⟩ := get_some (l := f) (k := i) (by omega)
      have hB4 := (hsh.out B (List.mem_of_getElem? hB)).1
      have hBget : f.getD i zbk = B := by rw [List.getD_eq_getElem?_getD, hB]; rfl
      have hcl := clean_le4 hB4
      have hi4' : (i : Int) < 4 := by omega
      go_wp2_with fail
      refine (impl_RecOk r _).mono ?_
      rintro e w2 ⟨rfl, hb⟩
      replace r0 := (hb.cell (p := ⟨w.heap.size, 0, none⟩) hs1).trans r0
      replace r1 := (hb.cell (p := ⟨w.heap.size, 1, none⟩) hs1).trans r1
      replace r2 := (hb.cell (p := ⟨w.heap.size, 2, none⟩) hs1).trans r2
      replace r3 := (hb.cell (p := ⟨w.heap.size, 3, none⟩) hs1).trans r3
      have hF2 := hF1.below hb (Nat.le_refl _)
      have hs2 : w.heap.size < w2.heap.size := Nat.lt_of_lt_of_le hs1 hb.size
      have hB2 := hB1.trans (hb.mono (by omega))
      clear hb hF1 hB1
      by_cases hro : recOk r = true
      · rw [hro]
        have hfin2 : Hid (flashWrite f i r torn = if clean B = 0 ∨ seqIn f r.seq = true then (f, false) else (f.set i { B with pages := B.pages.set (4 - clean B) (if torn then ⟨2, rc0⟩ else ⟨1, r⟩) }, true)) := by
          rw [Hid, hfin.out, if_neg (by rw [hok, hbo, hro]; simp), Int.toNat_natCast]
          unfold writeR
          rw [hBget]
        have HB := Lib.hid hB
        have HB4 := Lib.hid hB4
        clear hfin hok hbo hro hB hB4 hBget hl hb04
        go_wp2_with fail
        refine (impl_flashCopy A c f _ HL.out (fun b hb => (hsh.out b hb).1) hF2).mono ?_
        rintro e w3 ⟨g, rfl, ⟨hs, hBk, hApt⟩, hb⟩
        replace r0 := (hb.cell (p := ⟨w.heap.size, 0, none⟩) hs2).trans r0
        replace r1 := (hb.cell (p := ⟨w.heap.size, 1, none⟩) hs2).trans r1
        replace r2 := (hb.cell (p := ⟨w.heap.size, 2, none⟩) hs2).trans r2
        replace r3 := (hb.cell (p := ⟨w.heap.size, 3, none⟩) hs2).trans r3
        have hs3 : w.heap.size < w3.heap.size := Nat.lt_of_lt_of_le hs2 hb.size
        have hB3 := hB2.trans (hb.mono (by omega))
        have hlo : w.heap.size ≤ w2.heap.size := by omega
        have hhi := hb.size
        obtain ⟨⟨Z, cz⟩, hx, z0, z1, z2, z3, hR, _⟩ := hBk.at_ HB.out
        dsimp only at z0 hR
        rw [Nat.zero_add] at z0 z1 z2 z3
        rw [HB4.out] at z0
        have HX := Lib.hid hx
        have hpl : B.pages.length < 1000000000000 := by rw [HB4.out]; omega
        clear hb hF2 hB2 hx
        go_wp2_with fail
        refine (impl_freePages B Z 4 cz _ HB4.out.symm hpl hR).mono ?_
        rintro e w4 ⟨rfl, hb⟩
        replace r0 := (hb.cell (p := ⟨w.heap.size, 0, none⟩) hs3).trans r0
        replace r1 := (hb.cell (p := ⟨w.heap.size, 1, none⟩) hs3).trans r1
        replace r2 := (hb.cell (p := ⟨w.heap.size, 2, none⟩) hs3).trans r2
        replace r3 := (hb.cell (p := ⟨w.heap.size, 3, none⟩) hs3).trans r3
        have hs4 : w.heap.size < w4.heap.size := Nat.lt_of_lt_of_le hs3 hb.size
        have hB4' := hB3.trans (hb.mono (by omega))
        have hBk4 := hBk.below hb (Nat.le_refl _)
        have hhi4 := hb.size
        clear hb hBk hB3 z0 z1 z2 z3 hR
        generalize clean B = n at *
        by_cases h0 : n = 0
        · subst h0
          have h3 : Hid (flashWrite f i r torn = (f, false)) := by rw [Hid, hfin2.out, if_pos (.inl rfl)]
          go_wp2
          go_ret2
          rw [h3.out]
          exact ⟨some ⟨g, 0, none⟩, 4, ret_sl HL.out.symm, by rw [HL.out]; exact Nat.le_refl _, ⟨hs, hBk4, hApt.mono hlo hhi4⟩, hB4'⟩
        · have hn0 : ((n : Int) == 0) = false := by rw [beq_eq_false_iff_ne]; omega
          go_wp2_with fail
          refine (impl_seqUsed f r.seq _ 4 4 _ HL.out.symm (by rw [HL.out]; omega) (fun b hb => by rw [(hsh.out b hb).1]; omega) ⟨hs, hBk4⟩).mono ?_
          rintro e w5 ⟨rfl, hb⟩
          replace r0 := (hb.cell (p := ⟨w.heap.size, 0, none⟩) hs4).trans r0
          replace r1 := (hb.cell (p := ⟨w.heap.size, 1, none⟩) hs4).trans r1
          replace r2 := (hb.cell (p := ⟨w.heap.size, 2, none⟩) hs4).trans r2
          replace r3 := (hb.cell (p := ⟨w.heap.size, 3, none⟩) hs4).trans r3
          have hs5 : w.heap.size < w5.heap.size := Nat.lt_of_lt_of_le hs4 hb.size
          have hB5 := hB4'.trans (hb.mono (by omega))
          have hBk5 := hBk4.below hb (Nat.le_refl _)
          have hhi5 := hb.size
          clear hb hBk4 hB4'
          by_cases hsq : seqIn f r.seq = true
          · have h3 : Hid (flashWrite f i r torn = (f, false)) := by rw [Hid, hfin2.out, if_pos (.inr hsq)]
            rw [hsq]
            go_wp2
            go_ret2
            rw [h3.out]
            exact ⟨some ⟨g, 0, none⟩, 4, ret_sl HL.out.symm, by rw [HL.out]; exact Nat.le_refl _, ⟨hs, hBk5, hApt.mono hlo (by omega)⟩, hB5⟩
          · have h3 : Hid (flashWrite f i r torn = (f.set i { B with pages := B.pages.set (4 - n) (if torn then ⟨2, rc0⟩ else ⟨1, r⟩) }, true)) := by
              rw [Hid, hfin2.out, if_neg (by intro h; rcases h with h | h; exact h0 h; exact hsq h)]
            rw [show seqIn f r.seq = false by simpa using hsq]
            obtain ⟨j, hj⟩ : ∃ j, j + n = 4 := ⟨4 - n, by omega⟩
            have hj4 : 4 - n = j := by omega
            have e1 : IntKind.i64.wrap ((4 : Int) - n) = (j : Int) := by rw [show (4 : Int) - n = j by omega]; exact IntWalk.i64_in _ (by omega)
            have e2 : (4 : Int) - n = (j : Int) := by omega
            rw [hj4] at h3
            clear hj4 hfin2 hsq
            obtain ⟨x, hx2, y0, y1, _, _, hR1, _⟩ := hBk5.at_ HB.out
            rw [HX.out] at hx2
            cases hx2
            dsimp only at y0 hR1
            rw [HB4.out, Nat.zero_add] at y0
            obtain ⟨p, hq⟩ := get_some (l := B.pages) (k := j) (by rw [HB4.out]; omega)
            obtain ⟨pb, po, rfl⟩ := hR1.addr (pgs_ne (by intro e; rw [e] at hq; simp at hq))
            obtain ⟨c0, c1, c2, c3, c4⟩ := hR1.pg hq
            obtain ⟨f0, f1, f2, f3, f4⟩ := hR1.pgf hq
            have hj1 : (j : Int) < 4 := by omega
            have hpin := hApt.in_ i _ pb HX.out (by rw [blk_some])
            have HQ := Lib.hid hq
            have hpb := lt_of_cell c0
            have hgl := lt_of_cell y0
            have hel : ∀ X : Bk, (f.set i X).length = 4 := fun X => by rw [List.length_set]; exact HL.out
            have HEL := Lib.hid hel
            clear hq hel
            cases torn
            · have hWp := wrote_page hR1 HQ.out ⟨1, r⟩
              have hBk6 := hBk5.setPage hApt HB.out HX.out (by rw [HB4.out]; omega) hWp
              have hB6 := hB5.trans (hWp.agr.below (B := w.heap.size) (by omega) (fun k e => by omega))
              have hss := hWp.size
              clear hWp hBk5 hB5
              go_wp2
              go_region
              all_goals
                go_wp2
                go_ret2
                rw [h3.out]
                exact ⟨some ⟨g, 0, none⟩, 4, ret_sl (HEL.out _).symm, by rw [HEL.out]; exact Nat.le_refl _, ⟨hs, (hBk6.alloc _).drew, hApt.mono hlo (by simp; omega)⟩, (hB6.alloc hB6.size _).drew⟩
            · have hWp := wrote_page hR1 HQ.out ⟨2, rc0⟩
              have hBk6 := hBk5.setPage hApt HB.out HX.out (by rw [HB4.out]; omega) hWp
              have hB6 := hB5.trans (hWp.agr.below (B := w.heap.size) (by omega) (fun k e => by omega))
              have hss := hWp.size
              simp only [rc0] at hBk6 hB6
              clear hWp hBk5 hB5
              go_wp2
              go_region
              all_goals
                go_wp2
                go_ret2
                rw [h3.out]
                exact ⟨some ⟨g, 0, none⟩, 4, ret_sl (HEL.out _).symm, by rw [HEL.out]; exact Nat.le_refl _, ⟨hs, (hBk6.alloc _).drew, hApt.mono hlo (by simp; omega)⟩, (hB6.alloc hB6.size _).drew⟩
      · have hro' : recOk r = false := by simpa using hro
        have h3 : Hid (flashWrite f i r torn = ([], false)) := by rw [Hid, hfin.out, if_pos (.inr (.inr hro'))]
        rw [hro']
        go_wp2
        go_ret2
        rw [h3.out]
        exact ⟨none, 0, rfl, Nat.le_refl _, ofl_nil _ _ _, hB2⟩
    · have hbo' : blockB block = false := by simpa using hbo
      have h3 : Hid (flashWrite f block r torn = ([], false)) := by rw [Hid, hfin.out, if_pos (.inr (.inl hbo'))]
      rw [hbo']
      go_wp2
      go_ret2
      rw [h3.out]
      exact ⟨none, 0, rfl, Nat.le_refl _, ofl_nil _ _ _, hB1⟩
  · have hok' : flashOk f = false := by simpa using hok
    have h3 : Hid (flashWrite f block r torn = ([], false)) := by rw [Hid, hfin.out, if_pos (.inl hok')]
    rw [hok']
    go_wp2
    go_ret2
    rw [h3.out]
    exact ⟨none, 0, rfl, Nat.le_refl _, ofl_nil _ _ _, hB1⟩
end Go.Proofs.Ytbekihiiildgmaa
open Go.RowKit Go.IntWalk Go.Maps
namespace Go.Proofs.Ytbekihiiildgmaa
set_option linter.unusedVariables false
set_option linter.unusedSimpArgs false
set_option maxHeartbeats 1000000
/-- a store in a box: its flash and its disk lie apart from the box, the disk apart from the flash -/
def Hold (w : World) (lo ob : Nat) (s : St) : Prop :=
  ∃ A c D d hs, w.cell? ⟨ob, 0, none⟩ = some (.slice A 4 c) ∧ w.cell? ⟨ob, 1, none⟩ = some (.slice D 6 d) ∧ w.frozen? ⟨ob, 0, none⟩ = false ∧ w.frozen? ⟨ob, 1, none⟩ = false ∧ lo ≤ ob ∧ (∃ h, Apt lo h A hs ∧ h ≤ w.heap.size) ∧
    Bks w A s.flash hs ∧ Row w D (ints s.disk) ∧ (∀ b, fblk A hs b → lo ≤ b ∧ b ≠ ob) ∧ ∀ b, blk D b → lo ≤ b ∧ b ≠ ob ∧ ¬ fblk A hs b
theorem Hold.drew {w : World} {lo ob : Nat} {s : St} (h : Hold w lo ob s) : Hold w.drew lo ob s := by
  obtain ⟨A, c, D, d, hs, o0, o1, f0, f1, hlo, hAp, hBk, hD, hfb, hdb⟩ := h
  exact ⟨A, c, D, d, hs, o0, o1, f0, f1, hlo, hAp, hBk.drew, hD.drew, hfb, hdb⟩
theorem Hold.below {w w' : World} {lo ob : Nat} {s : St} (h : Hold w lo ob s) (hb : Below w.heap.size w w') : Hold w' lo ob s := by
  obtain ⟨A, c0, D, d, hs, o0, o1, f0, f1, hlo, hAp, hBk, hD, hfb, hdb⟩ := h
  have hob := lt_of_cell o0
  exact ⟨A, c0, D, d, hs, (hb.cell (p := ⟨ob, 0, none⟩) hob).trans o0, (hb.cell (p := ⟨ob, 1, none⟩) hob).trans o1, (hb.frozen (p := ⟨ob, 0, none⟩) hob).trans f0, (hb.frozen (p := ⟨ob, 1, none⟩) hob).trans f1, hlo, (by obtain ⟨h, h1, h2⟩ := hAp; exact ⟨h, h1, Nat.le_trans h2 hb.size⟩), hBk.below hb (Nat.le_refl _), hD.below hb (Nat.le_refl _), hfb, hdb⟩
theorem Hold.far {w w' : World} {lo ob : Nat} {s : St} (h : Hold w lo ob s) (hk : ∀ b, lo ≤ b → b < w.heap.size → w'.heap[b]? = w.heap[b]?) : Hold w' lo ob s := by
  obtain ⟨A, c0, D, d, hs, o0, o1, f0, f1, hlo, hAp, hBk, hD, hfb, hdb⟩ := h
  have hob := lt_of_cell o0
  have hh := hk ob hlo hob
  have hsz : w.heap.size ≤ w'.heap.size := by
    have h1 := hk (w.heap.size - 1) (by omega) (by omega)
    rcases Nat.lt_or_ge (w.heap.size - 1) w'.heap.size with h | h
    · omega
    · rw [Array.getElem?_eq_none h, Array.getElem?_eq_getElem (by omega)] at h1; cases h1
  refine ⟨A, c0, D, d, hs, (World.cell?_of_block (a := ⟨ob, 0, none⟩) hh).trans o0, (World.cell?_of_block (a := ⟨ob, 1, none⟩) hh).trans o1, (World.frozen?_of_block (a := ⟨ob, 0, none⟩) hh).trans f0, (World.frozen?_of_block (a := ⟨ob, 1, none⟩) hh).trans f1, hlo, (by obtain ⟨h, h1, h2⟩ := hAp; exact ⟨h, h1, Nat.le_trans h2 hsz⟩), hBk.keep fun b hb hl => hk b (hfb b ?_).1 hl, hD.keep fun b hb hl => hk b (hdb b hb).1 hl, hfb, hdb⟩
  rcases hb with hy | ⟨z, hz, hy⟩
  · exact .inl hy
  · obtain ⟨j, hj⟩ := List.getElem?_of_mem hz
    exact .inr ⟨j, z, hj, hy⟩
theorem Hold.new {w : World} {lo c d : Nat} {A D : Option Addr} {f : List Bk} {xs : List Int} (hO : OSt w lo w.heap.size A f D xs) (hlo : lo ≤ w.heap.size) : Hold (w.alloc (.cells #[.slice A 4 c, .slice D 6 d] 26)) lo w.heap.size ⟨f, xs⟩ := by
  obtain ⟨hs, hBk, hApt, hD, hdb⟩ := hO
  refine ⟨A, c, D, d, hs, by simp, by simp, by simp, by simp, hlo, ⟨_, hApt, by simp⟩, hBk.alloc _, hD.alloc _, fun b hb => ?_, fun b hb => ⟨(hdb b hb).1, by have := (hdb b hb).2.1; omega, fun hf => ?_⟩⟩
  · have := hApt.fblk hb; exact ⟨this.1, by omega⟩
  · rcases hf with hf | ⟨i, x, hx, hf⟩
    · exact (hdb b hb).2.2.1 hf
    · exact (hdb b hb).2.2.2 i x hx hf
theorem Hold.flash {w w' w'' : World} {lo ob : Nat} {s : St} {A1 : Option Addr} {c : Nat} {f : List Bk} (h : Hold w lo ob s) (hn : ints s.disk ≠ []) (hb : Below w.heap.size w w') (hO : OFl w' w.heap.size w'.heap.size A1 f) (hw : w'' = w'.setCell ⟨ob, 0, none⟩ (.slice A1 4 c)) : Hold w'' lo ob { s with flash := f } := by
  obtain ⟨A, c0, D, d, hs, o0, o1, f0, f1, hlo, hAp, hBk, hD, hfb, hdb⟩ := h
  obtain ⟨hs2, hBk2, hApt⟩ := hO
  have hob := lt_of_cell o0
  have q0 := (hb.cell (p := ⟨ob, 0, none⟩) hob).trans o0
  have q1 := (hb.cell (p := ⟨ob, 1, none⟩) hob).trans o1
  have g0 := (hb.frozen (p := ⟨ob, 0, none⟩) hob).trans f0
  have g1 := (hb.frozen (p := ⟨ob, 1, none⟩) hob).trans f1
  have hW := wrote_one q0 (.slice A1 4 c)
  rw [← hw] at hW
  have n0 := hW.new_ 0 _ rfl
  have n1 := hW.old_ 1 (by simp)
  refine ⟨A1, c, D, d, hs2, n0, n1.trans q1, (hW.frozen _).trans g0, (hW.frozen _).trans g1, hlo, ⟨_, hApt.mono (by omega) (Nat.le_refl _), by rw [hW.size]; exact Nat.le_refl _⟩, hBk2.keep fun y hy hl => hW.block y ?_, (hD.below hb (Nat.le_refl _)).keep fun y hy hl => hW.block y (hdb y hy).2.1, fun b hb2 => ?_, fun b hb2 => ⟨(hdb b hb2).1, (hdb b hb2).2.1, fun hf => ?_⟩⟩
  · rintro rfl
    have hf : fblk A1 hs2 y := by
      rcases hy with hy | ⟨z, hz, hy⟩
      · exact .inl hy
      · obtain ⟨j, hj⟩ := List.getElem?_of_mem hz
        exact .inr ⟨j, z, hj, hy⟩
    have := (hApt.fblk hf).1
    omega
  · have := (hApt.fblk hb2).1
    exact ⟨by omega, by omega⟩
  · have h1 := (hApt.fblk hf).1
    have hbl := hD.lt hn hb2
    omega
theorem wipe_act {f : List Bk} (h : flashOk f = true) {x : Sp} (hx : stepB x = true) (hk : x.kind = 2) (torn : Bool) : flashWipe f x.block torn = wipeR f x.block.toNat torn := by
  have hb := (stepB_wipes hx hk).2.2.2
  have := wipeR_eq (torn := torn) h (i := x.block.toNat) (by omega)
  rwa [Int.toNat_of_nonneg hb.1] at this
theorem write_act {f : List Bk} (h : flashOk f = true) {x : Sp} (hx : stepB x = true) (hk : x.kind = 3) (torn : Bool) : flashWrite f x.block x.rc torn = writeR f x.block.toNat x.rc torn := by
  obtain ⟨_, _, hb, hr⟩ := stepB_writes hx hk
  unfold flashWrite
  rw [if_neg (by rw [h, blockB_iff.2 hb, hr]; simp)]
theorem writeR_no {f : List Bk} {i : Nat} {r : Rc} {t : Bool} (h : (writeR f i r t).2 = false) : (writeR f i r t).1 = f := by
  unfold writeR at h ⊢
  split at h
  · rw [if_pos (by assumption)]
  · cases h
theorem wipeR_no {f : List Bk} {i : Nat} {t : Bool} (h : (wipeR f i t).2 = false) : (wipeR f i t).1 = f := by
  unfold wipeR at h ⊢
  split at h
  · rw [if_pos (by assumption)]
  · cases h
theorem impl_act1 (s : St) (x : Sp) (torn : Bool) (lo ob sb : Nat) (w : World) (hk : x.kind = 1) (hx : stepB x = true) (h6 : s.disk.length = 6) (hH : Hold w lo ob s) (hS : Row w (some ⟨sb, 0, none⟩) x.vs) (hsb : sb < lo) :
    Calls Try.prog 121 #[.pointer (some ⟨ob, 0, none⟩), .bool torn, .pointer (some ⟨sb, 0, none⟩)] w fun e w' => e = .returned (.tuple #[]) ∧ Hold w' lo ob (doStep s x torn) ∧ Below lo w w' := by
  obtain ⟨_, _, ha, _⟩ := stepB_tells hx hk
  have hfin : Hid (doStep s x torn = if torn then s else { s with disk := s.disk.set (x.addr - 1).toNat x.val }) := by unfold Hid doStep; rw [if_pos hk]
  obtain ⟨k1, s1⟩ := hS.at0 (j := 1) rfl
  obtain ⟨k2, s2⟩ := hS.at0 (j := 2) rfl
  generalize x.addr = a at *
  generalize x.val = v at *
  clear hx hk hS
  cases torn
  · obtain ⟨i, rfl⟩ : ∃ i : Nat, a = i + 1 := ⟨(a - 1).toNat, by omega⟩
    rw [if_neg (by decide), show ((i : Int) + 1 - 1).toNat = i by omega] at hfin
    have hi : i < 6 := by omega
    have hi6 : (i : Int) < 6 := by omega
    have HO := Lib.hid hH
    obtain ⟨A, c, D, d, hs, o0, o1, f0, f1, hlo, hAp, hBk, hD, hfb, hdb⟩ := hH
    obtain ⟨db, dO, rfl⟩ := hD.addr (ints_ne' (by intro e; rw [e] at h6; simp at h6))
    have hdb1 := hdb db (blk_some.2 rfl)
    obtain ⟨u, hu⟩ := get_some (l := s.disk) (k := i) (by omega)
    obtain ⟨c0, e0⟩ := hD.int_ hu
    have hW := wrote_one c0 (.int .i64 v)
    have hR2 : Row (w.setCell ⟨db, dO + i, none⟩ (.int .i64 v)) (some ⟨db, dO, none⟩) (ints (s.disk.set i v)) := by
      rw [ints_set]
      exact hW.row hD (by rw [ints_len]; simp; omega)
    have hne : ob ≠ db := fun e => hdb1.2.1 e.symm
    have hX : Hold (w.setCell ⟨db, dO + i, none⟩ (.int .i64 v)) lo ob { s with disk := s.disk.set i v } :=
      ⟨A, c, some ⟨db, dO, none⟩, d, hs, (hW.agr.cell (lt_of_cell o0) hne 0).trans o0, (hW.agr.cell (lt_of_cell o0) hne 1).trans o1, (hW.agr.fz (lt_of_cell o0) hne 0).trans f0, (hW.agr.fz (lt_of_cell o0) hne 1).trans f1, hlo, (by rw [hW.size]; exact hAp),
        hBk.keep fun y hy hl => hW.agr.block y hl (by
          rintro rfl
          refine hdb1.2.2 ?_
          rcases hy with hy | ⟨z, hz, hy⟩
          · exact .inl hy
          · obtain ⟨j, hj⟩ := List.getElem?_of_mem hz
            exact .inr ⟨j, z, hj, hy⟩), hR2, hfb, hdb⟩
    have HX := Lib.hid hX
    have e1 : IntKind.i64.wrap ((i : Int) + 1 - 1) = i := by rw [show (i : Int) + 1 - 1 = i by omega]; exact IntWalk.i64_in _ (by omega)
    have e2 : IntKind.i64.wrap (i : Int) = i := IntWalk.i64_in _ (by omega)
    have n1 : db ≠ ob := hdb1.2.1
    have n2 : db ≠ sb := by omega
    have n3 : sb ≠ db := by omega
    have hlo2 := hdb1.1
    clear hu hW hR2 hX hBk hfb hdb hD ha hdb1 HO
    go_enter Try.func121, Try.ntmps121
    go_wp2
    go_region
    go_wp2
    go_end0
    exact ⟨rfl, by rw [hfin.out]; exact HX.out.drew, (Below.setCell (Below.refl _ _) (by exact hlo2) _).drew⟩
  · rw [if_pos rfl] at hfin
    go_enter Try.func121, Try.ntmps121
    go_wp2
    go_end0
    exact ⟨rfl, by rw [hfin.out]; exact hH, Below.refl _ _⟩
set_option maxRecDepth 20000 in
theorem impl_act2 (s : St) (x : Sp) (torn : Bool) (lo ob sb : Nat) (w : World) (hk : x.kind = 2) (hx : stepB x = true) (hok : flashOk s.flash = true) (h6 : s.disk.length = 6) (hH : Hold w lo ob s) (hS : Row w (some ⟨sb, 0, none⟩) x.vs) (hsb : sb < lo) :
    Calls Try.prog 122 #[.pointer (some ⟨ob, 0, none⟩), .bool torn, .pointer (some ⟨sb, 0, none⟩)] w fun e w' => e = .returned (.tuple #[]) ∧ Hold w' lo ob (doStep s x torn) ∧ Below lo w w' := by
  have hfin : Hid (doStep s x torn = { s with flash := (wipeR s.flash x.block.toNat torn).1 }) := by unfold Hid doStep; rw [if_neg (by omega), if_pos hk]
  have hl4 := flashOk_len hok
  have hFW : ∀ (A : Option Addr) (c : Nat) (w : World), Fl w A s.flash → Hid (Calls Try.prog 123 #[.slice A 4 c, .int .i64 x.block, .bool torn] w (FlPost (wipeR s.flash x.block.toNat torn) w)) := fun A c w h => by
    have := impl_FlashWipe s.flash x.block torn A c w h
    rw [wipe_act hok hx hk] at this
    rwa [hl4] at this
  have hlen : Hid ((wipeR s.flash x.block.toNat torn).1.length = 4) := by rw [Hid, wipeR_len, hl4]
  have hno : Hid ((wipeR s.flash x.block.toNat torn).2 = false → (wipeR s.flash x.block.toNat torn).1 = s.flash) := wipeR_no
  generalize (wipeR s.flash x.block.toNat torn) = R at *
  obtain ⟨R1, R2⟩ := R
  dsimp only at *
  have hd6 : ints s.disk ≠ [] := ints_ne' (by intro e; rw [e] at h6; simp at h6)
  obtain ⟨k3, s3⟩ := hS.at0 (j := 3) rfl
  have HH := Lib.hid hH
  have HD6 := Lib.hid hd6
  obtain ⟨A, c, D, d, hs, o0, o1, f0, f1, hlo, hAp, hBk, hD, hfb, hdb⟩ := hH
  have hob := lt_of_cell o0
  have hF : Fl w A s.flash := ⟨hs, hBk⟩
  clear hk hx hok h6 hS hl4 hd6 hD hfb hdb hBk
  go_enter Try.func122, Try.ntmps122
  go_wp2
  go_region_with (first | (go_at_call 123; (with_reducible refine (hFW A c _ (Fl.drew' hF)).out.mono ?_); rintro e w1 ⟨A1, c1, rfl, hc1, hO, hb1⟩; rw [show ((R1, R2) : List Bk × Bool).1.length = 4 from hlen.out]; replace hO : OFl w1 w.heap.size w1.heap.size A1 R1 := hO; replace hb1 : Below w.heap.size w w1 := undrew hb1; have q0 := (hb1.cell (p := ⟨ob, 0, none⟩) hob).trans o0; have q1 := (hb1.cell (p := ⟨ob, 1, none⟩) hob).trans o1; have g0 := (hb1.frozen (p := ⟨ob, 0, none⟩) hob).trans f0; have g1 := (hb1.frozen (p := ⟨ob, 1, none⟩) hob).trans f1))
  all_goals
    cases R2
    · have hR := hno.out rfl
      subst hR
      go_wp2
      go_end0
      exact ⟨rfl, by rw [hfin.out]; exact HH.out.below hb1, hb1.mono (by omega)⟩
    · go_wp2
      go_end0
      exact ⟨rfl, by rw [hfin.out]; exact HH.out.flash HD6.out hb1 hO rfl, (hb1.mono (by omega)).setCell (by exact hlo) _⟩
set_option maxRecDepth 20000 in
theorem impl_act3 (s : St) (x : Sp) (torn : Bool) (lo ob sb : Nat) (w : World) (hk : x.kind = 3) (hx : stepB x = true) (hok : flashOk s.flash = true) (h6 : s.disk.length = 6) (hH : Hold w lo ob s) (hS : Row w (some ⟨sb, 0, none⟩) x.vs) (hsb : sb < lo) :
    Calls Try.prog 124 #[.pointer (some ⟨ob, 0, none⟩), .bool torn, .pointer (some ⟨sb, 0, none⟩)] w fun e w' => e = .returned (.tuple #[]) ∧ Hold w' lo ob (doStep s x torn) ∧ Below lo w w' := by
  have hfin : Hid (doStep s x torn = { s with flash := (writeR s.flash x.block.toNat x.rc torn).1 }) := by unfold Hid doStep; rw [if_neg (by omega), if_neg (by omega), if_pos hk]
  have hl4 := flashOk_len hok
  have hFW : ∀ (A : Option Addr) (c : Nat) (w : World), Fl w A s.flash → Hid (Calls Try.prog 125 #[.slice A 4 c, .int .i64 x.block, .agg #[.int .i64 x.rc.kind, .int .i64 x.rc.seq, .int .i64 x.rc.addr, .int .i64 x.rc.val], .bool torn] w (FlPost (writeR s.flash x.block.toNat x.rc torn) w)) := fun A c w h => by
    have := impl_FlashWrite s.flash x.block x.rc torn A 4 c w hl4.symm h
    rw [write_act hok hx hk] at this
    exact this
  have hlen : Hid ((writeR s.flash x.block.toNat x.rc torn).1.length = 4) := by rw [Hid, writeR_len, hl4]
  have hno : Hid ((writeR s.flash x.block.toNat x.rc torn).2 = false → (writeR s.flash x.block.toNat x.rc torn).1 = s.flash) := writeR_no
  generalize (writeR s.flash x.block.toNat x.rc torn) = R at *
  obtain ⟨R1, R2⟩ := R
  dsimp only at *
  have hd6 : ints s.disk ≠ [] := ints_ne' (by intro e; rw [e] at h6; simp at h6)
  obtain ⟨k3, s3⟩ := hS.at0 (j := 3) rfl
  obtain ⟨k4, s4⟩ := hS.at0 (j := 4) rfl
  obtain ⟨k5, s5⟩ := hS.at0 (j := 5) rfl
  obtain ⟨k6, s6⟩ := hS.at0 (j := 6) rfl
  obtain ⟨k7, s7⟩ := hS.at0 (j := 7) rfl
  have HH := Lib.hid hH
  have HD6 := Lib.hid hd6
  obtain ⟨A, c, D, d, hs, o0, o1, f0, f1, hlo, hAp, hBk, hD, hfb, hdb⟩ := hH
  have hob := lt_of_cell o0
  have hF : Fl w A s.flash := ⟨hs, hBk⟩
  clear hk hx hok h6 hS hl4 hd6 hD hfb hdb hBk
  go_enter Try.func124, Try.ntmps124
  go_wp2
  go_region_with (first | (go_at_call 125; (with_reducible refine (hFW A c _ (Fl.drew' hF)).out.mono ?_); rintro e w1 ⟨A1, c1, rfl, hc1, hO, hb1⟩; rw [show ((R1, R2) : List Bk × Bool).1.length = 4 from hlen.out]; replace hO : OFl w1 w.heap.size w1.heap.size A1 R1 := hO; replace hb1 : Below w.heap.size w w1 := undrew hb1; have q0 := (hb1.cell (p := ⟨ob, 0, none⟩) hob).trans o0; have q1 := (hb1.cell (p := ⟨ob, 1, none⟩) hob).trans o1; have g0 := (hb1.frozen (p := ⟨ob, 0, none⟩) hob).trans f0; have g1 := (hb1.frozen (p := ⟨ob, 1, none⟩) hob).trans f1))
  all_goals
    cases R2
    · have hR := hno.out rfl
      subst hR
      go_wp2
      go_end0
      exact ⟨rfl, by rw [hfin.out]; exact HH.out.below hb1, hb1.mono (by omega)⟩
    · go_wp2
      go_end0
      exact ⟨rfl, by rw [hfin.out]; exact HH.out.flash HD6.out hb1 hO rfl, (hb1.mono (by omega)).setCell (by exact hlo) _⟩
end Go.Proofs.Ytbekihiiildgmaa
open Go.RowKit Go.IntWalk Go.Maps
namespace Go.Proofs.Ytbekihiiildgmaa
set_option linter.unusedVariables false
set_option linter.unusedSimpArgs false
set_option maxHeartbeats 1000000
def actV (k : Int) (b : Nat) : Value := .func (.func (if k = 1 then 121 else if k = 2 then 122 else 124)) #[] #[.pointer (some ⟨b, 0, none⟩)]
theorem impl_actionOf (x : Sp) (w : World) : Calls Try.prog 76 #[.agg #[.int .i64 x.kind, .int .i64 x.addr, .int .i64 x.val, .int .i64 x.block, .int .i64 x.rc.kind, .int .i64 x.rc.seq, .int .i64 x.rc.addr, .int .i64 x.rc.val]] w fun e w' =>
    e = .returned (actV x.kind w.heap.size) ∧ w' = w.alloc (.cells #[.int .i64 x.kind, .int .i64 x.addr, .int .i64 x.val, .int .i64 x.block, .int .i64 x.rc.kind, .int .i64 x.rc.seq, .int .i64 x.rc.addr, .int .i64 x.rc.val] 47) := by
  have hmf : ∀ (fn : Fn) (first cap : Array Value) (w : World), (Instr.makeFunc fn first cap).run Try.prog w = .ok (.func fn first cap) w := fun _ _ _ _ => rfl
  obtain ⟨k, a, v, b, rc⟩ := x
  dsimp only
  by_cases h1 : k = 1
  · subst h1
    have hv : Hid (actV 1 w.heap.size = .func (.func 121) #[] #[.pointer (some ⟨w.heap.size, 0, none⟩)]) := rfl
    go_enter Try.func76, Try.ntmps76
    go_wp2
    go_ret
    exact ⟨by rw [hv.out]; rfl, rfl⟩
  by_cases h2 : k = 2
  · subst h2
    have hv : Hid (actV 2 w.heap.size = .func (.func 122) #[] #[.pointer (some ⟨w.heap.size, 0, none⟩)]) := rfl
    go_enter Try.func76, Try.ntmps76
    go_wp2
    go_ret
    exact ⟨by rw [hv.out]; rfl, rfl⟩
  have hv : Hid (actV k w.heap.size = .func (.func 124) #[] #[.pointer (some ⟨w.heap.size, 0, none⟩)]) := by unfold Hid actV; rw [if_neg h1, if_neg h2]
  go_enter Try.func76, Try.ntmps76
  go_wp2
  go_ret
  exact ⟨by rw [hv.out]; rfl, rfl⟩
theorem impl_take0 (qb c : Nat) (A : Option Addr) (w : World) (hq : w.cell? ⟨qb, 0, none⟩ = some (.slice A 0 c)) :
    Calls Try.prog 78 #[.pointer (some ⟨qb, 0, none⟩)] w fun e w' => e = .returned (.tuple #[.nilFunc, .bool false]) ∧ w' = w := by
  go_enter Try.func78, Try.ntmps78
  go_wp2
  go_ret2
  exact ⟨rfl, rfl⟩
theorem impl_take (qb wb wo n c : Nat) (v : Value) (w : World) (hq : w.cell? ⟨qb, 0, none⟩ = some (.slice (some ⟨wb, wo, none⟩) (n + 1) c)) (hf : w.frozen? ⟨qb, 0, none⟩ = false) (hv : w.cell? ⟨wb, wo, none⟩ = some v) (hv1 : v.oneCell' = true) (hc : n + 1 ≤ c) (hn : n < 1000000000000) :
    Calls Try.prog 78 #[.pointer (some ⟨qb, 0, none⟩)] w fun e w' => e = .returned (.tuple #[v, .bool true]) ∧ ∃ A', w' = w.setCell ⟨qb, 0, none⟩ (.slice A' n (c - 1)) ∧ (n ≠ 0 → A' = some ⟨wb, wo + 1, none⟩) := by
  have h1 : (((n + 1 : Nat) : Int) == 0) = false := by rw [beq_eq_false_iff_ne]; omega
  have h2 : 0 < n + 1 := by omega
  have HC := Lib.hid hc
  go_enter Try.func78, Try.ntmps78
  go_wp2
  all_goals go_ret2
  all_goals refine ⟨rfl, _, rfl, fun hn0 => ?_⟩
  all_goals have hc' := HC.out
  all_goals first | rfl | (exfalso; omega) | (rw [if_neg (by omega)])
end Go.Proofs.Ytbekihiiildgmaa
open Go.RowKit Go.IntWalk Go.Maps
namespace Go.Proofs.Ytbekihiiildgmaa
set_option linter.unusedVariables false
set_option linter.unusedSimpArgs false
set_option maxHeartbeats 2000000
theorem Try.info3_action : (Try.prog.info? 100).map (fun i => (i.zero, i.size, i.bytes)) = some (some .nilFunc, 1, 8) := by kernel_rfl
def st0 : St := ⟨[], []⟩
/-- StepsTo: what it answers -/
def toR (s : St) (xs : List Sp) (cut : Int) (torn : Bool) : St × Bool := if cut < 0 ∨ storeOk s = false ∨ allB xs = false then (st0, false) else (doTo s xs cut torn, true)
/-- a flash that can be read, in blocks from lo on -/
def FlAt (w : World) (lo : Nat) (A : Option Addr) (f : List Bk) : Prop := ∃ hs, Bks w A f hs ∧ ∀ b, fblk A hs b → lo ≤ b
theorem FlAt.fl {w : World} {lo : Nat} {A : Option Addr} {f : List Bk} (h : FlAt w lo A f) : Fl w A f := by obtain ⟨hs, h, _⟩ := h; exact ⟨hs, h⟩
theorem FlAt.nil (w : World) (lo : Nat) : FlAt w lo none [] := ⟨[], ⟨rfl, Row.nil _ _, fun i b x h => by simp at h⟩, fun b h => (h.elim (fun h => by cases h) (fun ⟨i, x, h, _⟩ => by simp at h))⟩
def ToPost (r : St × Bool) (w : World) (e : Ending) (w' : World) : Prop :=
  ∃ A c D d, e = .returned (.tuple #[.agg #[.slice A r.1.flash.length c, .slice D r.1.disk.length d], .bool r.2]) ∧ FlAt w' w.heap.size A r.1.flash ∧ Row w' D (ints r.1.disk) ∧ (∀ b, blk D b → w.heap.size ≤ b) ∧ Below w.heap.size w w'
theorem ToPost.fail {w w' : World} (h : Below w.heap.size w w') : ToPost (st0, false) w (.returned (.tuple #[.agg #[.slice none 0 0, .slice none 0 0], .bool false])) w' := ⟨none, 0, none, 0, rfl, FlAt.nil _ _, Row.nil _ _, (fun b hb => by cases hb), h⟩
/-- what StepsTo answers, and that the answer owns its memory -/
def ToOwn (r : St × Bool) (w : World) (e : Ending) (w' : World) : Prop :=
  ∃ A c D d, e = .returned (.tuple #[.agg #[.slice A r.1.flash.length c, .slice D r.1.disk.length d], .bool r.2]) ∧ OSt w' w.heap.size w'.heap.size A r.1.flash D r.1.disk ∧ Below w.heap.size w w'
theorem ToOwn.fail {w w' : World} (h : Below w.heap.size w w') : ToOwn (st0, false) w (.returned (.tuple #[.agg #[.slice none 0 0, .slice none 0 0], .bool false])) w' :=
  ⟨none, 0, none, 0, rfl, ⟨[], ⟨rfl, Row.nil _ _, fun i b x h => absurd h (by simp [st0])⟩, ⟨fun b hb => (by cases hb), fun i x b h => by simp at h, fun i j x y b h => by simp at h⟩, Row.nil _ _, fun b hb => (by cases hb)⟩, h⟩
theorem ToOwn.post {r : St × Bool} {w w' : World} {e : Ending} (h : ToOwn r w e w') : ToPost r w e w' := by
  obtain ⟨A, c, D, d, rfl, ⟨hs, h1, h2, h3, h4⟩, hb⟩ := h
  exact ⟨A, c, D, d, rfl, ⟨hs, h1, fun b hb => (h2.fblk hb).1⟩, h3, fun b hb => (h4 b hb).1, hb⟩
def actVs : List Sp → List Nat → List Value
  | x :: xs, b :: bs => actV x.kind b :: actVs xs bs
  | _, _ => []
theorem actVs_snoc {x : Sp} {b : Nat} : ∀ {xs : List Sp} {bs : List Nat}, bs.length = xs.length → actVs (xs ++ [x]) (bs ++ [b]) = actVs xs bs ++ [actV x.kind b]
  | [], [], _ => rfl
  | y :: xs, c :: bs, h => by simp only [List.cons_append, actVs]; rw [actVs_snoc (by simpa using h)]
  | [], _ :: _, h => by simp at h
  | _ :: _, [], h => by simp at h
theorem actVs_get {x : Sp} {b : Nat} : ∀ {xs : List Sp} {bs : List Nat} {j : Nat}, xs[j]? = some x → bs[j]? = some b → (actVs xs bs)[j]? = some (actV x.kind b)
  | [], _, _, h, _ => by simp at h
  | _ :: _, [], _, _, h => by simp at h
  | y :: xs, c :: bs, 0, h, h' => by simp at h h'; subst h; subst h'; rfl
  | y :: xs, c :: bs, j + 1, h, h' => by simp only [actVs, List.getElem?_cons_succ] at *; exact actVs_get h h'
theorem own_out {w : World} {base n : Nat} {t : TypeId} {v : Value} {xs : List Value} (h : w.ownsRow base t 1 v n xs) : ∃ A c, v = .slice A n c ∧ n ≤ c ∧ Row w A xs ∧ (∀ b, blk A b → base ≤ b ∧ b < w.heap.size ∧ v.ownBlock = some b) ∧ (0 < n → ∃ g, A = some ⟨g, 0, none⟩) := by
  have h' := h
  obtain ⟨hl, ⟨hv, hz⟩ | ⟨g, cap, cur, hv, hb, hh, hnc, hm, hs, ht⟩⟩ := h
  · subst hz
    have hxs : xs = [] := List.eq_nil_of_length_eq_zero (by simpa using hl)
    subst hxs
    exact ⟨none, 0, hv, Nat.le_refl _, Row.nil _ _, (fun b hb => by cases hb), fun e => absurd e (by omega)⟩
  · refine ⟨some ⟨g, 0, none⟩, cap, hv, hnc, ?_, fun b hb' => ?_, fun _ => ⟨g, rfl⟩⟩
    · rw [hv] at h'; exact Row.of_own h'
    · rw [blk_some] at hb'
      subst hb'
      exact ⟨hb, (Array.getElem?_eq_some_iff.1 hh).1, by rw [hv]; rfl⟩
/-- the boxes of the steps that wait -/
def Waits (w : World) (top : Nat) (xs : List Sp) (bs : List Nat) : Prop := ∀ (j : Nat) (x : Sp) (b : Nat), xs[j]? = some x → bs[j]? = some b → Row w (some ⟨b, 0, none⟩) x.vs ∧ top < b ∧ b < w.heap.size
theorem Waits.keep {w w' : World} {top : Nat} {xs : List Sp} {bs : List Nat} (h : Waits w top xs bs) (hs : w.heap.size ≤ w'.heap.size) (hk : ∀ b, b ∈ bs → w'.heap[b]? = w.heap[b]?) : Waits w' top xs bs := fun j x b hx hb => by
  obtain ⟨h1, h2, h3⟩ := h j x b hx hb
  exact ⟨h1.keep fun c hc _ => by rw [blk_some] at hc; subst hc; exact hk _ (List.mem_of_getElem? hb), h2, by omega⟩
theorem Waits.below {w w' : World} {top : Nat} {xs : List Sp} {bs : List Nat} (h : Waits w top xs bs) (hl : bs.length ≤ xs.length) (hb : Below w.heap.size w w') : Waits w' top xs bs := h.keep hb.size fun b hm => by
  obtain ⟨j, hj⟩ := List.getElem?_of_mem hm
  obtain ⟨x, hx⟩ := get_some (l := xs) (k := j) (by have := (List.getElem?_eq_some_iff.1 hj).1; omega)
  exact hb.block b (h j x b hx hj).2.2
theorem Waits.snoc {w : World} {top : Nat} {xs : List Sp} {bs : List Nat} {x : Sp} {b : Nat} (h : Waits w top xs bs) (hx : xs[bs.length]? = some x) (hr : Row w (some ⟨b, 0, none⟩) x.vs) (h1 : top < b) (h2 : b < w.heap.size) : Waits w top xs (bs ++ [b]) := fun j y c hy hc => by
  by_cases hj : j < bs.length
  · rw [List.getElem?_append_left hj] at hc
    exact h j y c hy hc
  · rw [List.getElem?_append_right (by omega)] at hc
    have hj2 : j = bs.length := by
      by_cases hz : j - bs.length = 0
      · omega
      · rw [List.getElem?_eq_none (by simp; omega)] at hc; cases hc
    subst hj2
    rw [hx] at hy
    cases hy
    simp at hc
    subst hc
    exact ⟨hr, h1, h2⟩
theorem impl_act (s : St) (x : Sp) (torn : Bool) (lo ob sb fn : Nat) (w : World) (hfn : actV x.kind sb = .func (.func fn) #[] #[.pointer (some ⟨sb, 0, none⟩)]) (hx : stepB x = true) (hok : flashOk s.flash = true) (h6 : s.disk.length = 6) (hH : Hold w lo ob s) (hS : Row w (some ⟨sb, 0, none⟩) x.vs) (hsb : sb < lo) :
    Calls Try.prog fn #[.pointer (some ⟨ob, 0, none⟩), .bool torn, .pointer (some ⟨sb, 0, none⟩)] w fun e w' => e = .returned (.tuple #[]) ∧ Hold w' lo ob (doStep s x torn) ∧ Below lo w w' := by
  rcases stepB_kind hx with hk | hk | hk
  · have : fn = 121 := by rw [hk] at hfn; simp [actV] at hfn; exact hfn.symm
    rw [this]; exact impl_act1 s x torn lo ob sb w hk hx h6 hH hS hsb
  · have : fn = 122 := by rw [hk] at hfn; simp [actV] at hfn; exact hfn.symm
    rw [this]; exact impl_act2 s x torn lo ob sb w hk hx hok h6 hH hS hsb
  · have : fn = 124 := by rw [hk] at hfn; simp [actV] at hfn; exact hfn.symm
    rw [this]; exact impl_act3 s x torn lo ob sb w hk hx hok h6 hH hS hsb
theorem act_enters {k : Int} {b fn : Nat} (h : actV k b = .func (.func fn) #[] #[.pointer (some ⟨b, 0, none⟩)]) : ∀ (args : Array Value) (w : World), (callFunc fn args).run Try.prog w = .ok (.enter fn args) w := by
  have h1 : (if k = 1 then 121 else if k = 2 then 122 else 124) = fn := by simpa [actV] using h
  have h2 : fn = 121 ∨ fn = 122 ∨ fn = 124 := by
    rw [← h1]
    split
    · exact .inl rfl
    · split
      · exact .inr (.inl rfl)
      · exact .inr (.inr rfl)
  rcases h2 with h2 | h2 | h2
  · subst h2; intro args w; exact enters_of Try.func121 (by kernel_rfl) rfl args w
  · subst h2; intro args w; exact enters_of Try.func122 (by kernel_rfl) rfl args w
  · subst h2; intro args w; exact enters_of Try.func124 (by kernel_rfl) rfl args w
/-- the store in the box, told as the result -/
theorem Hold.told {w w' : World} {lo ob rb : Nat} {t : St} {A D : Option Addr} {c d : Nat} {W : World} (hH : Hold w lo ob t) (o0 : w.cell? ⟨ob, 0, none⟩ = some (.slice A 4 c)) (o1 : w.cell? ⟨ob, 1, none⟩ = some (.slice D 6 d)) (h4 : t.flash.length = 4) (h6 : t.disk.length = 6) (hr : rb < lo) (hr0 : W.heap.size ≤ rb) 
    (hB : Below W.heap.size W w) (u0 u1 : Value) (hw : w' = (w.setCell ⟨rb, 0, none⟩ u0).setCell ⟨rb, 1, none⟩ u1) :
    ToOwn (t, true) W (.returned (.tuple #[.agg #[.slice A 4 c, .slice D 6 d], .bool true])) w' := by
  have hk : ∀ b, lo ≤ b → b < w.heap.size → w'.heap[b]? = w.heap[b]? := fun b hb _ => by
    rw [hw, Below.heap_setCell _ _ _ _ (show b ≠ rb by omega), Below.heap_setCell _ _ _ _ (show b ≠ rb by omega)]
  have hH' := hH.far hk
  have hob : lo ≤ ob := by obtain ⟨_, _, _, _, _, _, _, _, _, h, _⟩ := hH; exact h
  have hh := hk ob hob (lt_of_cell o0)
  obtain ⟨A', c', D', d', hs, p0, p1, _, _, _, ⟨hi, hApt, hle⟩, hBk, hD, hfb, hdb⟩ := hH'
  have e0 := (World.cell?_of_block (a := ⟨ob, 0, none⟩) hh).trans o0
  have e1 := (World.cell?_of_block (a := ⟨ob, 1, none⟩) hh).trans o1
  rw [p0] at e0
  rw [p1] at e1
  cases e0; cases e1
  refine ⟨A, c, D, d, by dsimp only; rw [h4, h6], ⟨hs, hBk, hApt.mono (by omega) hle, hD, fun b hb => ⟨by have := (hdb b hb).1; omega, hD.lt (ints_ne' (by intro e; rw [e] at h6; simp at h6)) hb, fun e => (hdb b hb).2.2 (.inl e), fun i x hx e => (hdb b hb).2.2 (.inr ⟨i, x, hx, e⟩)⟩⟩, ?_⟩
  rw [hw]
  exact (hB.setCell (p := ⟨rb, 0, none⟩) hr0 _).setCell (p := ⟨rb, 1, none⟩) hr0 _
end Go.Proofs.Ytbekihiiildgmaa
open Go.RowKit Go.IntWalk Go.Maps
namespace Go.Proofs.Ytbekihiiildgmaa
set_option linter.unusedVariables false
set_option linter.unusedSimpArgs false
set_option maxHeartbeats 4000000
set_option maxRecDepth 20000
/-- one more step waits -/
theorem queue_step {qb k c2 g2 cq : Nat} {Aq : Option Addr} {w2 w3 : World} {xs : List Sp} {bs : List Nat} {x : Sp} {F : Value} {t : TypeId} (hx : xs[k]? = some x) (hbl : bs.length = k) (hF : actV x.kind w2.heap.size = F)
    (hown : w2.ownsRow (qb + 1) t 1 (.slice Aq k cq) k (actVs (xs.take k) bs)) (hW : Waits w2 qb xs bs) (hvb : ∀ b, b ∈ bs → (Value.slice Aq k cq).ownBlock ≠ some b) (hqb : qb < w2.heap.size) (y2 : w3.cell? ⟨qb, 0, none⟩ = some (.slice Aq k cq)) (y3 : w3.frozen? ⟨qb, 0, none⟩ = false)
    (hown2 : w3.ownsRow (qb + 1) t 1 (.slice (some ⟨g2, 0, none⟩) (k + 1) c2) (k + 1) (actVs (xs.take k) bs ++ [F])) (hg : ((w2.alloc (.cells #[.int .i64 x.kind, .int .i64 x.addr, .int .i64 x.val, .int .i64 x.block, .int .i64 x.rc.kind, .int .i64 x.rc.seq, .int .i64 x.rc.addr, .int .i64 x.rc.val] 47)).alloc (.cells #[F] t)).drew.grownBy w3 (Value.slice Aq k cq).ownBlock) (hat : (Value.slice Aq k cq).ownBlock = some g2 ∨ g2 = w2.heap.size + 1 + 1) :
    (w3.setCell ⟨qb, 0, none⟩ (.slice (some ⟨g2, 0, none⟩) (k + 1) c2)).cell? ⟨qb, 0, none⟩ = some (.slice (some ⟨g2, 0, none⟩) (k + 1) c2) ∧ (w3.setCell ⟨qb, 0, none⟩ (.slice (some ⟨g2, 0, none⟩) (k + 1) c2)).frozen? ⟨qb, 0, none⟩ = false ∧
    (w3.setCell ⟨qb, 0, none⟩ (.slice (some ⟨g2, 0, none⟩) (k + 1) c2)).ownsRow (qb + 1) t 1 (.slice (some ⟨g2, 0, none⟩) (k + 1) c2) (k + 1) (actVs (xs.take (k + 1)) (bs ++ [w2.heap.size])) ∧
    Waits (w3.setCell ⟨qb, 0, none⟩ (.slice (some ⟨g2, 0, none⟩) (k + 1) c2)) qb xs (bs ++ [w2.heap.size]) ∧ (∀ b, b ∈ bs ++ [w2.heap.size] → (Value.slice (some ⟨g2, 0, none⟩) (k + 1) c2).ownBlock ≠ some b) := by
  have hlt := (List.getElem?_eq_some_iff.1 hx).1
  have hob : ∀ q, (Value.slice Aq k cq).ownBlock = some q → q < w2.heap.size := fun q e => (World.ownsRow.lt hown q e).2
  have hg2 := World.ownsRow.lt hown2 g2 rfl
  have hW1 := wrote_one y2 (.slice (some ⟨g2, 0, none⟩) (k + 1) c2)
  have hblk : ∀ b, b < w2.heap.size + 1 → b ≠ qb → (Value.slice Aq k cq).ownBlock ≠ some b → (w3.setCell ⟨qb, 0, none⟩ (.slice (some ⟨g2, 0, none⟩) (k + 1) c2)).heap[b]? = (w2.alloc (.cells #[.int .i64 x.kind, .int .i64 x.addr, .int .i64 x.val, .int .i64 x.block, .int .i64 x.rc.kind, .int .i64 x.rc.seq, .int .i64 x.rc.addr, .int .i64 x.rc.val] 47)).heap[b]? := fun b hb hq hn => by
    rw [hW1.block b hq]
    obtain ⟨_, _, _, _, h5⟩ := hg
    refine (h5 b (by show b < ((w2.alloc _).alloc _).heap.size; simp; omega) (fun e => hn e.symm)).trans ?_
    exact Below.heap_alloc _ _ _ (by simpa using hb)
  have hs3 : w2.heap.size + 2 ≤ w3.heap.size := by obtain ⟨_, _, _, h4, _⟩ := hg; have h4' : ((w2.alloc (.cells #[.int .i64 x.kind, .int .i64 x.addr, .int .i64 x.val, .int .i64 x.block, .int .i64 x.rc.kind, .int .i64 x.rc.seq, .int .i64 x.rc.addr, .int .i64 x.rc.val] 47)).alloc (.cells #[F] t)).heap.size ≤ w3.heap.size := h4; simpa using h4'
  have htk : xs.take (k + 1) = xs.take k ++ [x] := by rw [List.take_add_one, hx]; rfl
  have hmem : ∀ b, b ∈ bs → qb < b ∧ b < w2.heap.size := fun b hb => by
    obtain ⟨j, hj⟩ := List.getElem?_of_mem hb
    obtain ⟨y, hy⟩ := get_some (l := xs) (k := j) (by have := (List.getElem?_eq_some_iff.1 hj).1; omega)
    exact (hW j y b hy hj).2
  refine ⟨hW1.new_ 0 _ rfl, by rw [hW1.frozen]; exact y3, ?_, ?_, fun b hb e => ?_⟩
  · refine ownsRow_setCell_other ?_ (fun e => ?_) _
    · rw [htk, actVs_snoc (by rw [hbl, List.length_take]; omega), hF]; exact hown2
    · have e' : g2 = qb := by simpa [Value.ownBlock] using e
      have := hg2.1; omega
  · refine Waits.snoc (hW.keep (by rw [hW1.size]; omega) fun b hb => ?_) (by rw [hbl]; exact hx) ?_ (by omega) (by rw [hW1.size]; omega)
    · have := hmem b hb
      rw [hblk b (by omega) (by omega) (hvb b hb)]
      exact Below.heap_alloc _ _ _ this.2
    · refine (Row.new w2 #[.int .i64 x.kind, .int .i64 x.addr, .int .i64 x.val, .int .i64 x.block, .int .i64 x.rc.kind, .int .i64 x.rc.seq, .int .i64 x.rc.addr, .int .i64 x.rc.val] 47).keep fun b hb _ => ?_
      rw [blk_some] at hb
      subst hb
      exact hblk _ (by omega) (by omega) (fun e => by have := hob _ e; omega)
  · have e' : g2 = b := by simpa [Value.ownBlock] using e
    subst e'
    rcases List.mem_append.1 hb with hb | hb
    · rcases hat with h | h
      · exact hvb _ hb h
      · have := hmem _ hb; omega
    · rw [List.mem_singleton] at hb
      rcases hat with h | h
      · have := hob _ h; omega
      · omega
theorem impl_StepsTo_own (s : St) (xs : List Sp) (cut : Int) (torn : Bool) (A D V : Option Addr) (n m c d cs : Nat) (w : World) (hn : n = s.flash.length) (hm : m = s.disk.length) (hl : xs.length < 1000000000000) (hF : Fl w A s.flash) (hD : Row w D (ints s.disk)) (hX : Row w V (sps xs)) :
    Calls Try.prog 26 #[.agg #[.slice A n c, .slice D m d], .slice V xs.length cs, .int .i64 cut, .bool torn] w (ToOwn (toR s xs cut torn) w) := by
  have hB0 : Below w.heap.size w ((w.alloc (.cells #[.slice A n c, .slice D m d] 26)).alloc (.cells #[.slice none 0 0, .slice none 0 0] 26)) := by (repeat (first | (with_reducible exact Below.refl _ _) | (with_reducible assumption) | (refine Below.setCell ?_ (by first | omega | exact hB.size | exact hb.size | (have h := hB.size; simp; omega) | (have h := hb.size; simp; omega) | (simp; omega) | simp) _) | (refine Below.alloc ?_ (by first | omega | exact hB.size | exact hb.size | (have h := hB.size; simp; omega) | (have h := hb.size; simp; omega) | (simp; omega) | simp) _) | (refine Below.drew ?_)))
  have HSO := Lib.hid (impl_StoreOk s A D n m c d _ hn hm (hF.below hB0 (Nat.le_refl _)) (hD.below hB0 (Nat.le_refl _)))
  by_cases hc : cut < 0
  · have hfin : Hid (toR s xs cut torn = (st0, false)) := by unfold Hid toR; rw [if_pos (.inl hc)]
    clear HSO hn hm
    go_enter Try.func26, Try.ntmps26
    go_wp2
    refine bodyPost_ret (v := .tuple #[.agg #[.slice none 0 0, .slice none 0 0], .bool false]) (by simp [results, Try.results26, go_sem]) rfl ?_
    rw [hfin.out]
    exact ToOwn.fail (by (repeat (first | (with_reducible exact Below.refl _ _) | (with_reducible assumption) | (refine Below.setCell ?_ (by first | omega | exact hB.size | exact hb.size | (have h := hB.size; simp; omega) | (have h := hb.size; simp; omega) | (simp; omega) | simp) _) | (refine Below.alloc ?_ (by first | omega | exact hB.size | exact hb.size | (have h := hB.size; simp; omega) | (have h := hb.size; simp; omega) | (simp; omega) | simp) _) | (refine Below.drew ?_))))
  · by_cases hok : storeOk s = true
    · rw [hok] at HSO
      obtain ⟨h4, h6, hfl, hp4⟩ : s.flash.length = 4 ∧ s.disk.length = 6 ∧ flashOk s.flash = true ∧ stFine s := by
        have k := storeOk_iff.1 hok
        exact ⟨flashOk_len k.flash, k.len, k.flash, k.fine⟩
      have hfin : Hid (toR s xs cut torn = if allB xs = false then (st0, false) else (doTo s xs cut torn, true)) := by
        unfold Hid toR
        by_cases hb : allB xs = false
        · rw [if_pos (.inr (.inr hb)), if_pos hb]
        · rw [if_neg (by rintro (e | e | e); exact hc e; rw [hok] at e; cases e; exact hb e), if_neg hb]
      obtain rfl : n = 4 := by omega
      obtain rfl : m = 6 := by omega
      have hc' : ¬ cut < 0 := hc
      have HFL := Lib.hid hfl
      have HFI := Lib.hid hp4
      have H6 := Lib.hid h6
      clear hok h4 h6 hfl hp4 hn hm
      obtain ⟨ib, hib, hbz0, hbz1, hbz2⟩ := info_parts Try.info3_action
      go_enter Try.func26, Try.ntmps26
      go_wp2_with (go_at_call 21; with_reducible refine HSO.out.mono ?_; rintro e w1 ⟨rfl, hb⟩)
      have hB1 : Below w.heap.size w w1 := hB0.trans (hb.mono (by simp; omega))
      have hz1 : w.heap.size + 2 ≤ w1.heap.size := by have := hb.size; simpa using this
      obtain ⟨hcc, hff⟩ := bcell hb
      have x0 : w1.cell? ⟨w.heap.size, 0, none⟩ = some (.slice A 4 c) := (hcc _ _ (by simp <;> omega)).trans (by simp)
      have x1 : w1.cell? ⟨w.heap.size, 1, none⟩ = some (.slice D 6 d) := (hcc _ _ (by simp <;> omega)).trans (by simp)
      have r0 : w1.cell? ⟨w.heap.size + 1, 0, none⟩ = some (.slice none 0 0) := (hcc _ _ (by simp)).trans (by simp)
      have r1 : w1.cell? ⟨w.heap.size + 1, 1, none⟩ = some (.slice none 0 0) := (hcc _ _ (by simp)).trans (by simp)
      have q0 : w1.frozen? ⟨w.heap.size + 1, 0, none⟩ = false := (hff _ _ (by simp)).trans (by simp)
      have q1 : w1.frozen? ⟨w.heap.size + 1, 1, none⟩ = false := (hff _ _ (by simp)).trans (by simp)
      have hX1 := hX.below hB1 (Nat.le_refl _)
      clear HSO hb hcc hff hB0
      have hown0 : (w1.alloc (.cells #[.slice none 0 0] 97)).ownsRow (w1.heap.size + 1) 100 1 (.slice none 0 0) 0 (actVs (xs.take 0) []) := World.ownsRow_nil _ _ _ _
      go_loopw [29] (fun i wr => ∃ (k : Nat) (bs : List Nat) (v : Value), k ≤ xs.length ∧ i = .int .i64 k ∧ bs.length = k ∧ wr.cell? ⟨w1.heap.size, 0, none⟩ = some v ∧ wr.frozen? ⟨w1.heap.size, 0, none⟩ = false ∧ wr.ownsRow (w1.heap.size + 1) 100 1 v k (actVs (xs.take k) bs) ∧
        Waits wr w1.heap.size xs bs ∧ (∀ b, b ∈ bs → v.ownBlock ≠ some b) ∧ Below w1.heap.size w1 wr ∧ w1.heap.size < wr.heap.size ∧ Hid (allB xs = allB (xs.drop k))) (fun i _ => xs.length - (intOf i).toNat)
      case atStart => exact ⟨0, [], _, by omega, rfl, rfl, by simp, by simp, hown0, (fun j x b hx hb => (by simp at hb)), (fun b hb => (by cases hb)), by (repeat (first | (with_reducible exact Below.refl _ _) | (with_reducible assumption) | (refine Below.setCell ?_ (by first | omega | exact hB.size | exact hb.size | (have h := hB.size; simp; omega) | (have h := hb.size; simp; omega) | (simp; omega) | simp) _) | (refine Below.alloc ?_ (by first | omega | exact hB.size | exact hb.size | (have h := hB.size; simp; omega) | (have h := hb.size; simp; omega) | (simp; omega) | simp) _) | (refine Below.drew ?_))), by simp, rfl⟩
      case round =>
        obtain ⟨k, bs, v, hk, rfl, hbl, y0, y1, hown, hW, hvb, hB, hz, hT⟩ := hrel
        clear hown0
        by_cases hlt : k < xs.length
        · obtain ⟨x, hx⟩ := get_some hlt
          have hXr := hX1.below hB (Nat.le_refl _)
          obtain ⟨vb, vo, rfl⟩ := hXr.addr (by intro e; have := sps_len xs; rw [e] at this; simp at this; omega)
          obtain ⟨c0, c1, c2, c3, c4, c5, c6, c7⟩ := hXr.sp hx
          have hk1 : (k : Int) < xs.length := by omega
          have e1 : IntKind.i64.wrap ((k : Int) + 1) = (k : Int) + 1 := IntWalk.i64_in _ (by omega)
          have hT2 : Hid (allB xs = (stepB x && allB (xs.drop (k + 1)))) := by rw [Hid, hT.out, drop_cons hx]; rfl
          have htk : Hid (xs.take (k + 1) = xs.take k ++ [x]) := by rw [Hid, List.take_add_one, hx]; rfl
          have HX := Lib.hid hx
          clear hx hT hXr
          go_wp2_with fail
          with_reducible refine (impl_stepOk x _).mono ?_
          rintro e w2 ⟨rfl, hb2⟩
          obtain ⟨hcc, hff⟩ := bcell hb2
          have p0 : w2.cell? ⟨wr.heap.size, 0, none⟩ = some (.int .i64 x.kind) := (hcc _ _ (by simp)).trans (by simp)
          have p1 : w2.cell? ⟨wr.heap.size, 1, none⟩ = some (.int .i64 x.addr) := (hcc _ _ (by simp)).trans (by simp)
          have p2 : w2.cell? ⟨wr.heap.size, 2, none⟩ = some (.int .i64 x.val) := (hcc _ _ (by simp)).trans (by simp)
          have p3 : w2.cell? ⟨wr.heap.size, 3, none⟩ = some (.int .i64 x.block) := (hcc _ _ (by simp)).trans (by simp)
          have p4 : w2.cell? ⟨wr.heap.size, 4, none⟩ = some (.int .i64 x.rc.kind) := (hcc _ _ (by simp)).trans (by simp)
          have p5 : w2.cell? ⟨wr.heap.size, 5, none⟩ = some (.int .i64 x.rc.seq) := (hcc _ _ (by simp)).trans (by simp)
          have p6 : w2.cell? ⟨wr.heap.size, 6, none⟩ = some (.int .i64 x.rc.addr) := (hcc _ _ (by simp)).trans (by simp)
          have p7 : w2.cell? ⟨wr.heap.size, 7, none⟩ = some (.int .i64 x.rc.val) := (hcc _ _ (by simp)).trans (by simp)
          have hs2 : wr.heap.size + 1 ≤ w2.heap.size := by have := hb2.size; simpa using this
          have hB2 : Below wr.heap.size wr w2 := ((Below.refl _ _).alloc (Nat.le_refl _) _).trans (hb2.mono (by simp))
          have hB12 := hB.trans (hB2.mono hB.size)
          replace y0 := (hB2.cell (p := ⟨w1.heap.size, 0, none⟩) hz).trans y0
          replace y1 := (hB2.frozen (p := ⟨w1.heap.size, 0, none⟩) hz).trans y1
          replace hown := ownsRow_keep hown fun b hb hl => hB2.block b hl
          have hW2 := hW.below (by omega) hB2
          clear hb2 hcc hff hW c0 c1 c2 c3 c4 c5 c6 c7
          by_cases hsx : stepB x = true
          · have hT3 : Hid (allB xs = allB (xs.drop (k + 1))) := by rw [Hid, hT2.out, hsx]; rfl
            rw [hsx]
            clear hT2 hsx
            obtain ⟨Aq, cq, rfl, hcq, hRq, hbq, _⟩ := own_out hown
            have hnb : ∀ q, (Value.slice Aq k cq).ownBlock = some q → w1.heap.size + 1 ≤ q := fun q e => (World.ownsRow.lt hown q e).1
            obtain ⟨fn, hfn⟩ : ∃ fn, actV x.kind w2.heap.size = .func (.func fn) #[] #[.pointer (some ⟨w2.heap.size, 0, none⟩)] := ⟨_, rfl⟩
            have hAc : Hid (Calls Try.prog 76 #[.agg #[.int .i64 x.kind, .int .i64 x.addr, .int .i64 x.val, .int .i64 x.block, .int .i64 x.rc.kind, .int .i64 x.rc.seq, .int .i64 x.rc.addr, .int .i64 x.rc.val]] w2.drew fun e w' =>
                e = .returned (.func (.func fn) #[] #[.pointer (some ⟨w2.heap.size, 0, none⟩)]) ∧ w' = w2.drew.alloc (.cells #[.int .i64 x.kind, .int .i64 x.addr, .int .i64 x.val, .int .i64 x.block, .int .i64 x.rc.kind, .int .i64 x.rc.seq, .int .i64 x.rc.addr, .int .i64 x.rc.val] 47)) := by
              have := impl_actionOf x w2.drew
              rw [show actV x.kind w2.drew.heap.size = actV x.kind w2.heap.size from rfl, hfn] at this
              exact this
            have HNEW : Hid (((w2.alloc (.cells #[.int .i64 x.kind, .int .i64 x.addr, .int .i64 x.val, .int .i64 x.block, .int .i64 x.rc.kind, .int .i64 x.rc.seq, .int .i64 x.rc.addr, .int .i64 x.rc.val] 47)).alloc (.cells #[.func (.func fn) #[] #[.pointer (some ⟨w2.heap.size, 0, none⟩)]] 100)).heap[w2.heap.size + 1]? = some (.cells #[.func (.func fn) #[] #[.pointer (some ⟨w2.heap.size, 0, none⟩)]] 100 (0, 0))) := by
              have := World.alloc_heap_new (w2.alloc (.cells #[.int .i64 x.kind, .int .i64 x.addr, .int .i64 x.val, .int .i64 x.block, .int .i64 x.rc.kind, .int .i64 x.rc.seq, .int .i64 x.rc.addr, .int .i64 x.rc.val] 47)) (.cells #[.func (.func fn) #[] #[.pointer (some ⟨w2.heap.size, 0, none⟩)]] 100)
              rw [World.size_alloc] at this
              exact this
            have HFN := Lib.hid hfn
            have hz2 : w1.heap.size < w2.heap.size := by omega
            have hz3 : w1.heap.size < w2.heap.size + 1 := by omega
            have hz4 : w1.heap.size ≠ w2.heap.size + 1 := by omega
            have hz5 : w1.heap.size ≠ w2.heap.size := by omega
            have hz6 : wr.heap.size < w2.heap.size := by omega
            clear hfn
            go_wp2
            go_region_law (first | (go_simp; go_at_call 76; refine hAc.out.mono ?_; rintro e w5 ⟨rfl, rfl⟩) | (refine step_append_lies _ (by rfl) (.tmp 38) (.tmp 41) _ (by rfl) (w1.heap.size + 1) 100 ib _ 1 8 Try.underlying95 hib hbz0 hbz1 hbz2 rfl (by omega) (.slice Aq k cq) k (actVs (xs.take k) bs) (by rfl) (World.ownsRow.drew (World.ownsRow.alloc (World.ownsRow.alloc hown _) _)) ⟨w2.heap.size + 1, 0, none⟩ 1 1 [.func (.func fn) #[] #[.pointer (some ⟨w2.heap.size, 0, none⟩)]] (by rfl) (by rfl) (World.news_of_block (cs := #[.func (.func fn) #[] #[.pointer (some ⟨w2.heap.size, 0, none⟩)]]) (t := 100) (fr := (0, 0)) HNEW.out) (by simp [Value.oneCell']) (by omega) (by unfold maxLen; omega) (by omega) (by simp; omega) (w2.heap.size + 1 + 1) (by simp) ?_; intro g2 c2 w3 hown2 hgrow2 hat2 hlt2; have hbb : Below (w1.heap.size + 1) w2 w3 := (((((Below.refl _ _).alloc (by omega) _).alloc (by simp; omega) _).drew).grown hgrow2 (by simp; omega) hnb); have y2 := (hbb.cell (p := ⟨w1.heap.size, 0, none⟩) (by show w1.heap.size < _; omega)).trans y0; have y3 := (hbb.frozen (p := ⟨w1.heap.size, 0, none⟩) (by show w1.heap.size < _; omega)).trans y1))
            all_goals
              have hQ := queue_step HX.out hbl HFN.out hown hW2 hvb hz2 y2 y3 hown2 hgrow2 hat2
              have hBn : Below w1.heap.size w1 (w3.setCell ⟨w1.heap.size, 0, none⟩ (.slice (some ⟨g2, 0, none⟩) (k + 1) c2)) := (hB12.trans (hbb.mono (by omega))).setCell (Nat.le_refl _) _
              have hs3 := hbb.size
              clear hown hW2 hvb hown2 hgrow2 hat2 hAc hRq hbq
              go_wp2
              go_roundw
              case rel => exact ⟨k + 1, bs ++ [w2.heap.size], _, by omega, by go_num, by simp [hbl], hQ.1, hQ.2.1, hQ.2.2.1, hQ.2.2.2.1, hQ.2.2.2.2, hBn, by simp; omega, hT3⟩
              case measure => simp [intOf]; omega
          · have hsf : stepB x = false := by simpa using hsx
            have hT3 : Hid (toR s xs cut torn = (st0, false)) := by rw [Hid, hfin.out, hT2.out, hsf]; rfl
            rw [hsf]
            have rr0 := (hB12.cell (p := ⟨w.heap.size + 1, 0, none⟩) (by show w.heap.size + 1 < _; omega)).trans r0
            have rr1 := (hB12.cell (p := ⟨w.heap.size + 1, 1, none⟩) (by show w.heap.size + 1 < _; omega)).trans r1
            have qq0 := (hB12.frozen (p := ⟨w.heap.size + 1, 0, none⟩) (by show w.heap.size + 1 < _; omega)).trans q0
            have qq1 := (hB12.frozen (p := ⟨w.heap.size + 1, 1, none⟩) (by show w.heap.size + 1 < _; omega)).trans q1
            have hzr : w.heap.size + 1 < w2.heap.size := by omega
            have hBw := hB1.trans (hB12.mono hB1.size)
            clear hT2 hsx hsf hfin hown
            go_wp2
            refine bodyPost_ret (v := .tuple #[.agg #[.slice none 0 0, .slice none 0 0], .bool false]) (by simp [results, Try.results26, go_sem, hzr, rr0, rr1]) rfl ?_
            rw [hT3.out]
            refine ToOwn.fail ?_
            refine Below.setCell (Below.setCell hBw ?_ _) ?_ _ <;> (show w.heap.size ≤ w.heap.size + 1; omega)
        · have hk' : k = xs.length := by omega
          have hki : (xs.length : Int) ≤ k := by omega
          have hall : allB xs = true := by rw [hT.out, hk', List.drop_length]; rfl
          have hfin2 : Hid (toR s xs cut torn = (doTo s xs cut torn, true)) := by rw [Hid, hfin.out, if_neg (by rw [hall]; simp)]
          obtain ⟨Aq, cq, rfl, hcq, hRq, hbq, hgq⟩ := own_out hown
          obtain ⟨w4, rfl⟩ : ∃ w4 : World, w4 = wr := ⟨_, rfl⟩
          have HSC := Lib.hid (impl_storeCopy s A D c d w4 HFI.out (hF.below (hB1.trans (hB.mono hB1.size)) (Nat.le_refl _)) (hD.below (hB1.trans (hB.mono hB1.size)) (Nat.le_refl _)))
          have hBs := hB.size
          have b0 := (hB.cell (p := ⟨w.heap.size, 0, none⟩) (by show w.heap.size < _; omega)).trans x0
          have b1 := (hB.cell (p := ⟨w.heap.size, 1, none⟩) (by show w.heap.size < _; omega)).trans x1
          have HK := Lib.hid hk'
          have HA := Lib.hid hall
          clear hT hfin hown hvb hk' hk hlt hall hX hX1
          go_wp2_with fail
          with_reducible refine HSC.out.mono ?_
          rintro e w5 ⟨g0, d0, rfl, hO, hb5⟩
          have hs5 := hb5.size
          have hH0 := Hold.new (c := 4) (d := 6) hO hs5
          have hB5 : Below w4.heap.size w4 (w5.alloc (.cells #[.slice (some ⟨g0, 0, none⟩) 4 4, .slice (some ⟨d0, 0, none⟩) 6 6] 26)) := hb5.alloc hs5 _
          have hA0 : Agr (fun b => b = w1.heap.size ∨ w4.heap.size ≤ b) w4 (w5.alloc (.cells #[.slice (some ⟨g0, 0, none⟩) 4 4, .slice (some ⟨d0, 0, none⟩) 6 6] 26)) := Agr.of_below hB5
          have z0 := (hB5.cell (p := ⟨w1.heap.size, 0, none⟩) hz).trans y0
          have z1 := (hB5.frozen (p := ⟨w1.heap.size, 0, none⟩) hz).trans y1
          clear HSC hO hb5 hB5
          go_wp2
          go_loopw [14] (fun i wr => ∃ (j : Nat) (Aj : Option Addr), j ≤ xs.length ∧ (j : Int) ≤ cut ∧ i = .int .i64 j ∧ wr.cell? ⟨w1.heap.size, 0, none⟩ = some (.slice Aj (k - j) (cq - j)) ∧ wr.frozen? ⟨w1.heap.size, 0, none⟩ = false ∧ (j < xs.length → ∃ g, Aq = some ⟨g, 0, none⟩ ∧ Aj = some ⟨g, j, none⟩) ∧
            Hold wr w4.heap.size w5.heap.size (doAllOf s (xs.take j)) ∧ Agr (fun b => b = w1.heap.size ∨ w4.heap.size ≤ b) w4 wr) (fun i _ => cut.toNat - (intOf i).toNat)
          case atStart => exact ⟨0, Aq, by omega, by omega, rfl, z0, z1, fun h => (by obtain ⟨g, hg⟩ := hgq (by have := HK.out; omega); exact ⟨g, hg, hg⟩), hH0, hA0⟩
          case round =>
            obtain ⟨j, Aj, hj, hjc, rfl, y0, y1, hAj, hH, hAg⟩ := hrel
            have hk' := HK.out
            have hall := HA.out
            have hsr := hAg.size
            have rr0 := (hAg.cell (by omega) (by omega) 0).trans ((hB.cell (p := ⟨w.heap.size + 1, 0, none⟩) (by show w.heap.size + 1 < _; omega)).trans r0)
            have rr1 := (hAg.cell (by omega) (by omega) 1).trans ((hB.cell (p := ⟨w.heap.size + 1, 1, none⟩) (by show w.heap.size + 1 < _; omega)).trans r1)
            have qq0 := (hAg.fz (by omega) (by omega) 0).trans ((hB.frozen (p := ⟨w.heap.size + 1, 0, none⟩) (by show w.heap.size + 1 < _; omega)).trans q0)
            have qq1 := (hAg.fz (by omega) (by omega) 1).trans ((hB.frozen (p := ⟨w.heap.size + 1, 1, none⟩) (by show w.heap.size + 1 < _; omega)).trans q1)
            have hBr : Below w.heap.size w wr := (hB1.trans (hB.mono hB1.size)).trans (hAg.below (by omega) (fun b hb => by omega))
            have hobl : w5.heap.size < wr.heap.size := by obtain ⟨_, _, _, _, _, o0, _⟩ := hH; exact lt_of_cell o0
            clear hA0 z0 z1 hH0
            by_cases hjl : j < xs.length
            · obtain ⟨x, hx⟩ := get_some (l := xs) (k := j) hjl
              obtain ⟨b, hb⟩ := get_some (l := bs) (k := j) (by omega)
              obtain ⟨hRx, hb1, hb2⟩ := hW j x b hx hb
              obtain ⟨g, rfl, rfl⟩ := hAj hjl
              have hsx : stepB x = true := allB_iff.1 hall x (List.mem_of_getElem? hx)
              obtain ⟨fn, hfn⟩ : ∃ fn, actV x.kind b = .func (.func fn) #[] #[.pointer (some ⟨b, 0, none⟩)] := ⟨_, rfl⟩
              have hcg := (hRq.at0 (j := j) (actVs_get (x := x) (b := b) (by rw [List.getElem?_take, if_pos (by omega)]; exact hx) hb)).1
              rw [hfn] at hcg
              have hgb := hbq g (blk_some.2 rfl)
              have hcg2 := (hAg.cell hgb.2.1 (by omega) j).trans hcg
              have hRx2 := hRx.agr hAg (fun c hc => by rw [blk_some] at hc; subst hc; omega)
              have htk : Hid (xs.take (j + 1) = xs.take j ++ [x]) := by rw [Hid, List.take_add_one, hx]; rfl
              have hds := doAllOf_take s hx
              have hgx : xs.getD j ⟨0, 0, 0, 0, rc0⟩ = x := by rw [List.getD_eq_getElem?_getD, hx]; rfl
              have hkj : k - j = k - j - 1 + 1 := by omega
              rw [hkj] at y0
              have HTK := Lib.hid (impl_take w1.heap.size g j (k - j - 1) (cq - j) _ wr y0 y1 hcg2 rfl (by omega) (by omega))
              have hokj : flashOk (doAllOf s (xs.take j)).flash = true := doAllOf_ok HFL.out (fun y hy => allB_iff.1 hall y (List.mem_of_mem_take hy))
              have h6j : (doAllOf s (xs.take j)).disk.length = 6 := (doAllOf_disk _ _).trans H6.out

              by_cases hcc : (j : Int) < cut
              · have e1 : IntKind.i64.wrap ((j : Int) + 1) = (j : Int) + 1 := IntWalk.i64_in _ (by omega)
                clear hk' hj hki hkj
                go_wp2_with fail
                with_reducible refine HTK.out.mono ?_
                rintro e w7 ⟨rfl, A', rfl, hA'⟩
                have hH7 : Hold (wr.setCell ⟨w1.heap.size, 0, none⟩ (.slice A' (k - j - 1) (cq - j - 1))) w4.heap.size w5.heap.size (doAllOf s (xs.take j)) := hH.far fun b hb _ => Below.heap_setCell _ _ _ _ (show b ≠ w1.heap.size by omega)
                have hR7 : Row (wr.setCell ⟨w1.heap.size, 0, none⟩ (.slice A' (k - j - 1) (cq - j - 1))) (some ⟨b, 0, none⟩) x.vs := hRx2.keep fun c hc _ => by rw [blk_some] at hc; subst hc; exact Below.heap_setCell _ _ _ _ (show b ≠ w1.heap.size by omega)
                have HAC := Lib.hid (impl_act _ x false w4.heap.size w5.heap.size b fn _ hfn hsx hokj h6j hH7 hR7 hb2)
                have hs8 : ∀ w8, Below w4.heap.size (wr.setCell ⟨w1.heap.size, 0, none⟩ (.slice A' (k - j - 1) (cq - j - 1))) w8 → w8.cell? ⟨w1.heap.size, 0, none⟩ = some (.slice A' (k - j - 1) (cq - j - 1)) ∧ w8.frozen? ⟨w1.heap.size, 0, none⟩ = false ∧ Agr (fun b => b = w1.heap.size ∨ w4.heap.size ≤ b) w4 w8 := fun w8 hb8 => by
                  have hW1 := wrote_one y0 (.slice A' (k - j - 1) (cq - j - 1))
                  refine ⟨(hb8.cell (p := ⟨w1.heap.size, 0, none⟩) hz).trans (hW1.new_ 0 _ rfl), (hb8.frozen (p := ⟨w1.heap.size, 0, none⟩) hz).trans ((hW1.frozen _).trans y1), ?_⟩
                  refine (hAg.trans (hW1.agr) (fun i _ e => .inl e)).trans (S' := fun b => w4.heap.size ≤ b) ⟨hb8.os, hb8.tape, hb8.output, hb8.size, fun i _ hn => hb8.block i (by omega)⟩ (fun i _ h => .inr h)
                have HS8 := Lib.hid hs8
                have hen := act_enters hfn
                clear hs8 HTK hH hH7 hR7 hRx hRx2 hgq hAj hbq hsr hgb
                go_wp2_with (go_at_fn fn; (with_reducible refine HAC.out.mono ?_); rintro e w8 ⟨rfl, hH8, hb8⟩)
                rw [← hds] at hH8
                obtain ⟨n0, n1, n2⟩ := HS8.out w8 hb8
                clear HAC HS8
                go_roundw
                case rel => exact ⟨j + 1, A', by omega, by omega, by go_num, n0, n1, fun h => ⟨g, rfl, hA' (by have := HK.out; omega)⟩, hH8, n2⟩
                case measure => simp [intOf]; omega
              · have hcj : cut = j := by omega
                cases torn
                · -- not torn
                  have hds2 : doTo s xs cut false = doAllOf s (xs.take j) := by
                    unfold doTo
                    rw [if_neg (by rintro ⟨e, _⟩; cases e), hcj, Int.toNat_natCast]
                  have hfin3 : Hid (toR s xs cut false = (doAllOf s (xs.take j), true)) := by rw [Hid, hfin2.out, hds2]
                  have h4j := flashOk_len hokj
                  have HH7 : ∀ A', Hold (wr.setCell ⟨w1.heap.size, 0, none⟩ (.slice A' (k - j - 1) (cq - j - 1))) w4.heap.size w5.heap.size (doAllOf s (xs.take j)) := fun A' => hH.far fun b hb _ => Below.heap_setCell _ _ _ _ (show b ≠ w1.heap.size by omega)
                  obtain ⟨Ao, co, Do, dd, hso, o0, o1, _⟩ := hH
                  have n5 : w5.heap.size ≠ w1.heap.size := by omega
                  have n1 : w.heap.size + 1 ≠ w1.heap.size := by omega
                  have oo0 : ∀ u, (wr.setCell ⟨w1.heap.size, 0, none⟩ u).cell? ⟨w5.heap.size, 0, none⟩ = some (.slice Ao 4 co) := fun u => (World.cell?_of_block (a := ⟨w5.heap.size, 0, none⟩) (Below.heap_setCell _ _ _ _ n5)).trans o0
                  have oo1 : ∀ u, (wr.setCell ⟨w1.heap.size, 0, none⟩ u).cell? ⟨w5.heap.size, 1, none⟩ = some (.slice Do 6 dd) := fun u => (World.cell?_of_block (a := ⟨w5.heap.size, 1, none⟩) (Below.heap_setCell _ _ _ _ n5)).trans o1
                  have s0 : ∀ u, (wr.setCell ⟨w1.heap.size, 0, none⟩ u).cell? ⟨w.heap.size + 1, 0, none⟩ = some (.slice none 0 0) := fun u => (World.cell?_of_block (a := ⟨w.heap.size + 1, 0, none⟩) (Below.heap_setCell _ _ _ _ n1)).trans rr0
                  have s1 : ∀ u, (wr.setCell ⟨w1.heap.size, 0, none⟩ u).cell? ⟨w.heap.size + 1, 1, none⟩ = some (.slice none 0 0) := fun u => (World.cell?_of_block (a := ⟨w.heap.size + 1, 1, none⟩) (Below.heap_setCell _ _ _ _ n1)).trans rr1
                  have s2 : ∀ u, (wr.setCell ⟨w1.heap.size, 0, none⟩ u).frozen? ⟨w.heap.size + 1, 0, none⟩ = false := fun u => (World.frozen?_of_block (a := ⟨w.heap.size + 1, 0, none⟩) (Below.heap_setCell _ _ _ _ n1)).trans qq0
                  have s3 : ∀ u, (wr.setCell ⟨w1.heap.size, 0, none⟩ u).frozen? ⟨w.heap.size + 1, 1, none⟩ = false := fun u => (World.frozen?_of_block (a := ⟨w.heap.size + 1, 1, none⟩) (Below.heap_setCell _ _ _ _ n1)).trans qq1
                  have HB7 : ∀ u, Below w.heap.size w (wr.setCell ⟨w1.heap.size, 0, none⟩ u) := fun u => hBr.setCell (by show w.heap.size ≤ w1.heap.size; omega) _
                  have HO0 := Lib.hid oo0
                  have HO1 := Lib.hid oo1
                  have HS0 := Lib.hid s0
                  have HS1 := Lib.hid s1
                  have HS2 := Lib.hid s2
                  have HS3 := Lib.hid s3
                  have HHH := Lib.hid HH7
                  clear oo0 oo1 s0 s1 s2 s3 HH7 hds2 hds hk' hj hki hkj hRx hRx2 hgq hAj hbq hsr hgb
                  go_wp2_with fail
                  with_reducible refine HTK.out.mono ?_
                  rintro e w7 ⟨rfl, A', rfl, hA'⟩
                  have oo0 := HO0.out (.slice A' (k - j - 1) (cq - j - 1))
                  have oo1 := HO1.out (.slice A' (k - j - 1) (cq - j - 1))
                  have s0 := HS0.out (.slice A' (k - j - 1) (cq - j - 1))
                  have s1 := HS1.out (.slice A' (k - j - 1) (cq - j - 1))
                  have s2 := HS2.out (.slice A' (k - j - 1) (cq - j - 1))
                  have s3 := HS3.out (.slice A' (k - j - 1) (cq - j - 1))
                  have hh7 := HHH.out A'
                  have hb7 := HB7 (.slice A' (k - j - 1) (cq - j - 1))
                  have hz7 : w.heap.size + 1 < (wr.setCell ⟨w1.heap.size, 0, none⟩ (.slice A' (k - j - 1) (cq - j - 1))).heap.size := by simp; omega
                  clear HHH HB7 HO0 HO1 HS0 HS1 HS2 HS3 HTK
                  generalize wr.setCell ⟨w1.heap.size, 0, none⟩ (.slice A' (k - j - 1) (cq - j - 1)) = w7 at *
                  go_wp2
                  refine bodyPost_ret (v := .tuple #[.agg #[.slice Ao 4 co, .slice Do 6 dd], .bool true]) (by simp [results, Try.results26, go_sem, hz7, s0, s1]) rfl ?_
                  rw [hfin3.out]
                  exact hh7.told oo0 oo1 h4j h6j (show w.heap.size + 1 < w4.heap.size by omega) (by omega) hb7 _ _ rfl
                · have hds2 : doTo s xs cut true = doStep (doAllOf s (xs.take j)) x true := by
                    unfold doTo
                    rw [if_pos ⟨rfl, by omega, by omega⟩, hcj, Int.toNat_natCast, hgx]
                  have hfin3 : Hid (toR s xs cut true = (doStep (doAllOf s (xs.take j)) x true, true)) := by rw [Hid, hfin2.out, hds2]
                  have h4j : Hid ((doStep (doAllOf s (xs.take j)) x true).flash.length = 4) := flashOk_len (doStep_ok hokj hsx true)
                  have h6k : Hid ((doStep (doAllOf s (xs.take j)) x true).disk.length = 6) := (doStep_disk _ _ _).trans h6j
                  have n1 : w.heap.size + 1 ≠ w1.heap.size := by omega
                  have HEND : ∀ u w8, Below w4.heap.size (wr.setCell ⟨w1.heap.size, 0, none⟩ u) w8 → w8.cell? ⟨w.heap.size + 1, 0, none⟩ = some (.slice none 0 0) ∧ w8.cell? ⟨w.heap.size + 1, 1, none⟩ = some (.slice none 0 0) ∧ w8.frozen? ⟨w.heap.size + 1, 0, none⟩ = false ∧ w8.frozen? ⟨w.heap.size + 1, 1, none⟩ = false ∧ Below w.heap.size w w8 := fun u w8 hb8 =>
                    ⟨(hb8.cell (p := ⟨w.heap.size + 1, 0, none⟩) (by show w.heap.size + 1 < _; omega)).trans ((World.cell?_of_block (a := ⟨w.heap.size + 1, 0, none⟩) (Below.heap_setCell _ _ _ _ n1)).trans rr0),
                     (hb8.cell (p := ⟨w.heap.size + 1, 1, none⟩) (by show w.heap.size + 1 < _; omega)).trans ((World.cell?_of_block (a := ⟨w.heap.size + 1, 1, none⟩) (Below.heap_setCell _ _ _ _ n1)).trans rr1),
                     (hb8.frozen (p := ⟨w.heap.size + 1, 0, none⟩) (by show w.heap.size + 1 < _; omega)).trans ((World.frozen?_of_block (a := ⟨w.heap.size + 1, 0, none⟩) (Below.heap_setCell _ _ _ _ n1)).trans qq0),
                     (hb8.frozen (p := ⟨w.heap.size + 1, 1, none⟩) (by show w.heap.size + 1 < _; omega)).trans ((World.frozen?_of_block (a := ⟨w.heap.size + 1, 1, none⟩) (Below.heap_setCell _ _ _ _ n1)).trans qq1),
                     (hBr.setCell (p := ⟨w1.heap.size, 0, none⟩) (by show w.heap.size ≤ w1.heap.size; omega) u).trans (hb8.mono (by omega))⟩
                  have HE := Lib.hid HEND
                  clear HEND hds2 hds hk' hj hki hkj hgq hAj hbq hsr hgb
                  go_wp2_with fail
                  with_reducible refine HTK.out.mono ?_
                  rintro e w7 ⟨rfl, A', rfl, hA'⟩
                  have hH7 : Hold (wr.setCell ⟨w1.heap.size, 0, none⟩ (.slice A' (k - j - 1) (cq - j - 1))) w4.heap.size w5.heap.size (doAllOf s (xs.take j)) := hH.far fun b hb _ => Below.heap_setCell _ _ _ _ (show b ≠ w1.heap.size by omega)
                  have hR7 : Row (wr.setCell ⟨w1.heap.size, 0, none⟩ (.slice A' (k - j - 1) (cq - j - 1))) (some ⟨b, 0, none⟩) x.vs := hRx2.keep fun c hc _ => by rw [blk_some] at hc; subst hc; exact Below.heap_setCell _ _ _ _ (show b ≠ w1.heap.size by omega)
                  have HAC := Lib.hid (impl_act _ x true w4.heap.size w5.heap.size b fn _ hfn hsx hokj h6j hH7 hR7 hb2)
                  have hen := act_enters hfn
                  clear HTK hH hH7 hR7 hRx hRx2
                  go_wp2_with (go_at_fn fn; (with_reducible refine HAC.out.mono ?_); rintro e w8 ⟨rfl, hH8, hb8⟩; obtain ⟨s0, s1, s2, s3, hb9⟩ := HE.out _ w8 hb8; have hH9 := Lib.hid hH8; obtain ⟨Ao, co, Do, dd, hso, o0, o1, _⟩ := hH8)
                  have hz7 : w.heap.size + 1 < w8.heap.size := by have := hb8.size; simp at this; omega
                  refine bodyPost_ret (v := .tuple #[.agg #[.slice Ao 4 co, .slice Do 6 dd], .bool true]) (by simp [results, Try.results26, go_sem, hz7, s0, s1]) rfl ?_
                  rw [hfin3.out]
                  exact hH9.out.told o0 o1 h4j.out h6k.out (show w.heap.size + 1 < w4.heap.size by omega) (by omega) hb9 _ _ rfl
            · have hjx : j = xs.length := by omega
              have hkj : k - j = 0 := by omega
              have htake : xs.take j = xs := List.take_of_length_le (by omega)
              rw [hkj] at y0
              have HTK := Lib.hid (impl_take0 w1.heap.size (cq - j) Aj wr y0)
              have hokj : flashOk (doAllOf s xs).flash = true := doAllOf_ok HFL.out (fun y hy => allB_iff.1 hall y hy)
              have h6j : (doAllOf s xs).disk.length = 6 := (doAllOf_disk _ _).trans H6.out
              have h4j := flashOk_len hokj
              rw [htake] at hH
              have hds2 : doTo s xs cut torn = doAllOf s xs := doTo_full (by omega)
              have hfin3 : Hid (toR s xs cut torn = (doAllOf s xs, true)) := by rw [Hid, hfin2.out, hds2]
              have hH9 := Lib.hid hH
              obtain ⟨Ao, co, Do, dd, hso, o0, o1, _⟩ := hH
              have hz7 : w.heap.size + 1 < wr.heap.size := by omega
              have hlo7 : w.heap.size + 1 < w4.heap.size := by omega
              clear hds2 hk' hj hki hkj hgq hAj hbq hsr hjx htake hRq hokj
              by_cases hcc : (j : Int) < cut
              · go_wp2_with (go_at_call 78; (with_reducible refine HTK.out.mono ?_); rintro e w7 ⟨rfl, rfl⟩)
                refine bodyPost_ret (v := .tuple #[.agg #[.slice Ao 4 co, .slice Do 6 dd], .bool true]) (by simp [results, Try.results26, go_sem, hz7, rr0, rr1]) rfl ?_
                rw [hfin3.out]
                exact hH9.out.told o0 o1 h4j h6j hlo7 (by omega) hBr _ _ rfl
              · go_wp2_with (go_at_call 78; (with_reducible refine HTK.out.mono ?_); rintro e w7 ⟨rfl, rfl⟩)
                refine bodyPost_ret (v := .tuple #[.agg #[.slice Ao 4 co, .slice Do 6 dd], .bool true]) (by simp [results, Try.results26, go_sem, hz7, rr0, rr1]) rfl ?_
                rw [hfin3.out]
                exact hH9.out.told o0 o1 h4j h6j hlo7 (by omega) hBr _ _ rfl
    · have hok' : storeOk s = false := by simpa using hok
      rw [hok'] at HSO
      have hfin : Hid (toR s xs cut torn = (st0, false)) := by unfold Hid toR; rw [if_pos (.inr (.inl hok'))]
      clear hok hok' hn hm
      go_enter Try.func26, Try.ntmps26
      go_wp2_with (go_at_call 21; with_reducible refine HSO.out.mono ?_; rintro e w1 ⟨rfl, hb⟩; obtain ⟨hcc, hff⟩ := bcell hb; have hs1 : w.heap.size + 2 ≤ w1.heap.size := (by have := hb.size; simpa using this); have r0 : w1.cell? ⟨w.heap.size + 1, 0, none⟩ = some (.slice none 0 0) := (hcc _ _ (by simp)).trans (by simp); have r1 : w1.cell? ⟨w.heap.size + 1, 1, none⟩ = some (.slice none 0 0) := (hcc _ _ (by simp)).trans (by simp); have q0 : w1.frozen? ⟨w.heap.size + 1, 0, none⟩ = false := (hff _ _ (by simp)).trans (by simp); have q1 : w1.frozen? ⟨w.heap.size + 1, 1, none⟩ = false := (hff _ _ (by simp)).trans (by simp))
      have hB1 : Below w.heap.size w w1 := hB0.trans (hb.mono (by simp; omega))
      have hz7 : w.heap.size + 1 < w1.heap.size := by omega
      refine bodyPost_ret (v := .tuple #[.agg #[.slice none 0 0, .slice none 0 0], .bool false]) (by simp [results, Try.results26, go_sem, hz7, r0, r1]) rfl ?_
      rw [hfin.out]
      refine ToOwn.fail ?_
      refine Below.setCell (Below.setCell hB1 ?_ _) ?_ _ <;> (show w.heap.size ≤ w.heap.size + 1; omega)
end Go.Proofs.Ytbekihiiildgmaa
namespace Go.Proofs.Ytbekihiiildgmaa
set_option linter.unusedVariables false
set_option linter.unusedSimpArgs false
open Go.RowKit Go.Maps Go.Shelf
attribute [local go_sem] Oper.semAt_some
set_option maxHeartbeats 400000
end Go.Proofs.Ytbekihiiildgmaa
open Go.RowKit Go.IntWalk Go.Maps
namespace Go.Proofs.Ytbekihiiildgmaa
set_option linter.unusedVariables false
set_option linter.unusedSimpArgs false
set_option maxHeartbeats 1000000
theorem OwnS.one (w : World) (base : Nat) (hb : base ≤ w.heap.size) (x : Sp) : OwnS (w.alloc (.cells #[.int .i64 x.kind, .int .i64 x.addr, .int .i64 x.val, .int .i64 x.block, .int .i64 x.rc.kind, .int .i64 x.rc.seq, .int .i64 x.rc.addr, .int .i64 x.rc.val] 47)) base (.slice (some ⟨w.heap.size, 0, none⟩) 1 1) [x] := World.ownsRow_lit w #[.int .i64 x.kind, .int .i64 x.addr, .int .i64 x.val, .int .i64 x.block, .int .i64 x.rc.kind, .int .i64 x.rc.seq, .int .i64 x.rc.addr, .int .i64 x.rc.val] 1 hb (by unfold maxLen; omega) rfl
end Go.Proofs.Ytbekihiiildgmaa
open Go.RowKit Go.IntWalk Go.Maps
namespace Go.Proofs.Ytbekihiiildgmaa
set_option linter.unusedVariables false
set_option linter.unusedSimpArgs false
set_option maxHeartbeats 1000000
def StepsPost (w : World) (xs : List Sp) (e : Ending) (w' : World) : Prop := ∃ v, e = .returned v ∧ OwnS w' w.heap.size v xs ∧ Below w.heap.size w w'
theorem OwnS.shape' {w : World} {base : Nat} {v : Value} {xs : List Sp} (h : OwnS w base v xs) : ∃ A c, v = .slice A xs.length c ∧ xs.length ≤ c ∧ Row w A (sps xs) ∧ ∀ b, blk A b → base ≤ b ∧ b < w.heap.size := h.shape
end Go.Proofs.Ytbekihiiildgmaa
open Go.RowKit Go.IntWalk Go.Maps
namespace Go.Proofs.Ytbekihiiildgmaa
set_option linter.unusedVariables false
set_option linter.unusedSimpArgs false
set_option maxHeartbeats 1000000
end Go.Proofs.Ytbekihiiildgmaa
open Go.RowKit Go.IntWalk Go.Maps
namespace Go.Proofs.Ytbekihiiildgmaa
set_option linter.unusedVariables false
set_option linter.unusedSimpArgs false
set_option maxHeartbeats 1000000
set_option maxRecDepth 20000
end Go.Proofs.Ytbekihiiildgmaa
open Go.RowKit Go.IntWalk Go.Maps
namespace Go.Proofs.Ytbekihiiildgmaa
set_option linter.unusedVariables false
set_option linter.unusedSimpArgs false
set_option maxHeartbeats 2000000
set_option maxRecDepth 20000
/-- a store in a box -/
def BoxSt (w : World) (lo ob : Nat) (t : St) : Prop :=
  ∃ A c D d hs, w.cell? ⟨ob, 0, none⟩ = some (.slice A 4 c) ∧ w.cell? ⟨ob, 1, none⟩ = some (.slice D 6 d) ∧ w.frozen? ⟨ob, 0, none⟩ = false ∧ w.frozen? ⟨ob, 1, none⟩ = false ∧ Bks w A t.flash hs ∧ (∀ b, fblk A hs b → lo ≤ b ∧ b ≠ ob) ∧ Row w D (ints t.disk) ∧ ∀ b, blk D b → lo ≤ b ∧ b ≠ ob
theorem BoxSt.below {w w' : World} {lo ob B : Nat} {t : St} (h : BoxSt w lo ob t) (hb : Below B w w') (hB : w.heap.size ≤ B) : BoxSt w' lo ob t := by
  obtain ⟨A, c, D, d, hs, o0, o1, f0, f1, hBk, h1, hD, h2⟩ := h
  have hob := lt_of_cell o0
  exact ⟨A, c, D, d, hs, (hb.cell (p := ⟨ob, 0, none⟩) (by show ob < B; omega)).trans o0, (hb.cell (p := ⟨ob, 1, none⟩) (by show ob < B; omega)).trans o1, (hb.frozen (p := ⟨ob, 0, none⟩) (by show ob < B; omega)).trans f0, (hb.frozen (p := ⟨ob, 1, none⟩) (by show ob < B; omega)).trans f1, hBk.below hb hB, h1, hD.below hb hB, h2⟩
theorem BoxSt.alloc {w : World} {lo ob : Nat} {t : St} (h : BoxSt w lo ob t) (o : Obj) : BoxSt (w.alloc o) lo ob t := h.below (B := w.heap.size) ((Below.refl _ _).alloc (Nat.le_refl _) _) (Nat.le_refl _)
theorem BoxSt.put {w w' : World} {lo ob : Nat} {t t' : St} {A D : Option Addr} {c d : Nat} (h : BoxSt w lo ob t) (hF : FlAt w (ob + 1) A t'.flash) (hD : Row w D (ints t'.disk)) (hd : ∀ b, blk D b → ob + 1 ≤ b) (hl : lo ≤ ob) (hw : w' = (w.setCell ⟨ob, 0, none⟩ (.slice A 4 c)).setCell ⟨ob, 1, none⟩ (.slice D 6 d)) : BoxSt w' lo ob t' := by
  obtain ⟨_, _, _, _, _, o0, o1, f0, f1, _⟩ := h
  obtain ⟨hs, hBk, hlo⟩ := hF
  have hW : Wrote w w' ob 0 [.slice A 4 c, .slice D 6 d] := by
    rw [hw]
    exact wrote_setRow ob [.slice A 4 c, .slice D 6 d] 0 w (fun j hj => by
      match j, hj with
      | 0, _ => exact ⟨_, o0⟩
      | 1, _ => exact ⟨_, o1⟩)
  refine ⟨A, c, D, d, hs, hW.new_ 0 _ rfl, hW.new_ 1 _ rfl, (hW.frozen _).trans f0, (hW.frozen _).trans f1, hBk.keep fun b hb hl => hW.block b ?_, fun b hb => (by have := hlo b hb; exact ⟨by omega, by omega⟩), hD.keep fun b hb hl => hW.block b (by have := hd b hb; omega), fun b hb => (by have := hd b hb; exact ⟨by omega, by omega⟩)⟩
  have hf : fblk A hs b := by
    rcases hb with hy | ⟨z, hz, hy⟩
    · exact .inl hy
    · obtain ⟨j, hj⟩ := List.getElem?_of_mem hz
      exact .inr ⟨j, z, hj, hy⟩
  have := hlo b hf
  omega
theorem BoxSt.of {w : World} {lo ob : Nat} {t : St} {A D : Option Addr} {c d : Nat} (o0 : w.cell? ⟨ob, 0, none⟩ = some (.slice A 4 c)) (o1 : w.cell? ⟨ob, 1, none⟩ = some (.slice D 6 d)) (f0 : w.frozen? ⟨ob, 0, none⟩ = false) (f1 : w.frozen? ⟨ob, 1, none⟩ = false) (hF : FlAt w (ob + 1) A t.flash) (hD : Row w D (ints t.disk)) (hd : ∀ b, blk D b → ob + 1 ≤ b) (hl : lo ≤ ob) : BoxSt w lo ob t := by
  obtain ⟨hs, hBk, hlo⟩ := hF
  exact ⟨A, c, D, d, hs, o0, o1, f0, f1, hBk, fun b hb => (by have := hlo b hb; exact ⟨by omega, by omega⟩), hD, fun b hb => (by have := hd b hb; exact ⟨by omega, by omega⟩)⟩
theorem FlAt.keep {w w' : World} {lo : Nat} {A : Option Addr} {f : List Bk} (h : FlAt w lo A f) (hk : ∀ b, lo ≤ b → b < w.heap.size → w'.heap[b]? = w.heap[b]?) : FlAt w' lo A f := by
  obtain ⟨hs, hBk, hlo⟩ := h
  refine ⟨hs, hBk.keep fun b hb hl => hk b (hlo b ?_) hl, hlo⟩
  rcases hb with hy | ⟨z, hz, hy⟩
  · exact .inl hy
  · obtain ⟨j, hj⟩ := List.getElem?_of_mem hz
    exact .inr ⟨j, z, hj, hy⟩
theorem BoxSt.new {w : World} {lo c d : Nat} {A D : Option Addr} {t : St} (hO : OSt w lo w.heap.size A t.flash D t.disk) : BoxSt (w.alloc (.cells #[.slice A 4 c, .slice D 6 d] 26)) lo w.heap.size t := by
  obtain ⟨hs, hBk, hApt, hD, hdb⟩ := hO
  exact ⟨A, c, D, d, hs, by simp, by simp, by simp, by simp, hBk.alloc _, fun b hb => (by have := hApt.fblk hb; exact ⟨by omega, by omega⟩), hD.alloc _, fun b hb => (by have := hdb b hb; exact ⟨this.1, by omega⟩)⟩
/-- a store, and steps: what the play's inner functions answer -/
def PlaysPost (t : St) (w : World) (e : Ending) (w' : World) : Prop :=
  ∃ A c D d v, e = .returned (.tuple #[.agg #[.slice A 4 c, .slice D 6 d], v]) ∧ FlAt w' w.heap.size A t.flash ∧ Row w' D (ints t.disk) ∧ (∀ b, blk D b → w.heap.size ≤ b) ∧ Below w.heap.size w w'
theorem FlAt.below {w w' : World} {lo lo' B : Nat} {A : Option Addr} {f : List Bk} (h : FlAt w lo A f) (hb : Below B w w') (hB : w.heap.size ≤ B) (hl : lo' ≤ lo) : FlAt w' lo' A f := by
  obtain ⟨hs, h1, h2⟩ := h
  exact ⟨hs, h1.below hb hB, fun b hb => Nat.le_trans hl (h2 b hb)⟩
theorem Row.lo {w : World} {A : Option Addr} {vs : List Value} (h : Row w A vs) (hn : vs ≠ []) : ∀ b, blk A b → b < w.heap.size := fun b hb => h.lt hn hb
end Go.Proofs.Ytbekihiiildgmaa
open Go.RowKit Go.IntWalk Go.Maps
namespace Go.Proofs.Ytbekihiiildgmaa
set_option linter.unusedVariables false
set_option linter.unusedSimpArgs false
set_option maxHeartbeats 2000000
set_option maxRecDepth 20000
theorem PlaysPost.more {t : St} {w w' w'' : World} {e : Ending} (h : PlaysPost t w e w') (hb : Below w'.heap.size w' w'') : PlaysPost t w e w'' := by
  obtain ⟨A, c, D, d, v, he, h1, h2, h3, h4⟩ := h
  exact ⟨A, c, D, d, v, he, h1.below hb (Nat.le_refl _) (Nat.le_refl _), h2.below hb (Nat.le_refl _), h3, h4.trans (hb.mono h4.size)⟩
end Go.Proofs.Ytbekihiiildgmaa
open Go.RowKit Go.IntWalk Go.Maps
namespace Go.Proofs.Ytbekihiiildgmaa
set_option linter.unusedVariables false
set_option linter.unusedSimpArgs false
set_option maxHeartbeats 2000000
set_option maxRecDepth 20000
end Go.Proofs.Ytbekihiiildgmaa
open Go.RowKit Go.IntWalk Go.Maps
namespace Go.Proofs.Ytbekihiiildgmaa
set_option linter.unusedVariables false
set_option linter.unusedSimpArgs false
set_option maxHeartbeats 2000000
set_option maxRecDepth 20000
end Go.Proofs.Ytbekihiiildgmaa
open Go.RowKit Go.IntWalk Go.Maps
namespace Go.Proofs.Ytbekihiiildgmaa
set_option linter.unusedVariables false
set_option linter.unusedSimpArgs false
set_option maxHeartbeats 2000000
set_option maxRecDepth 20000
theorem OSt.flAt {w : World} {lo hi : Nat} {A D : Option Addr} {f : List Bk} {xs : List Int} (h : OSt w lo hi A f D xs) : FlAt w lo A f := by
  obtain ⟨hs, hBk, hApt, _, _⟩ := h
  exact ⟨hs, hBk, fun b hb => (hApt.fblk hb).1⟩
theorem OSt.dlo {w : World} {lo hi : Nat} {A D : Option Addr} {f : List Bk} {xs : List Int} (h : OSt w lo hi A f D xs) : ∀ b, blk D b → lo ≤ b ∧ b < hi := by
  obtain ⟨hs, hBk, hApt, _, h⟩ := h
  exact fun b hb => ⟨(h b hb).1, (h b hb).2.1⟩
end Go.Proofs.Ytbekihiiildgmaa
