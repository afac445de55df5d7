/- Plain laws: shape is kept. -/
import Derived.Test.YtfkjhnfbajflaaaE2
namespace Go.Proofs.Ytfkjhnfbajflaaa
set_option linter.unusedVariables false
set_option linter.unusedSimpArgs false
theorem mem_set {α : Type} {l : List α} {i : Nat} {x y : α} (h : y ∈ l.set i x) : y ∈ l ∨ y = x := List.mem_or_eq_of_mem_set h
theorem pg0_ok : pageOk ⟨0, rc0⟩ = true := by decide
theorem torn_ok : pageOk ⟨2, rc0⟩ = true := by decide
theorem put_ok {r : Rc} (h : recOk r = true) : pageOk ⟨1, r⟩ = true := by unfold pageOk; simpa using h
theorem flFine_get {f : List Bk} (h : flFine f) {i : Nat} (hi : i < 4) : bkFine (f.getD i zbk) := by
  have hl : i < f.length := by have := h.1; omega
  rw [List.getD_eq_getElem?_getD, List.getElem?_eq_getElem hl]
  exact h.2 _ (List.getElem_mem hl)
theorem flFine_set {f : List Bk} {b : Bk} (h : flFine f) (hb : bkFine b) (i : Nat) : flFine (f.set i b) :=
  ⟨by rw [List.length_set]; exact h.1, fun c hc => by rcases mem_set hc with hc | rfl; exact h.2 c hc; exact hb⟩
theorem wipeR_fine {f : List Bk} (h : flFine f) {i : Nat} (hi : i < 4) (torn : Bool) : flFine (wipeR f i torn).1 := by
  have hb := flFine_get h hi
  unfold wipeR wipe
  split
  · exact h
  · rename_i hw
    refine flFine_set h ⟨by simp, by have := hb.2.1; show 0 ≤ (f.getD i zbk).worn + 1; omega, by show (f.getD i zbk).worn + 1 ≤ 200; omega, fun p hp => ?_⟩ i
    have := List.eq_of_mem_replicate hp
    subst this
    cases torn
    · exact pg0_ok
    · exact torn_ok
theorem writeR_fine {f : List Bk} (h : flFine f) {i : Nat} (hi : i < 4) {r : Rc} (hr : recOk r = true) (torn : Bool) : flFine (writeR f i r torn).1 := by
  have hb := flFine_get h hi
  unfold writeR
  split
  · exact h
  · have key : bkFine ⟨(f.getD i zbk).pages.set (4 - clean (f.getD i zbk)) (if torn then ⟨2, rc0⟩ else ⟨1, r⟩), (f.getD i zbk).worn⟩ := by
      refine ⟨by show ((f.getD i zbk).pages.set _ _).length = 4; rw [List.length_set]; exact hb.1, hb.2.1, hb.2.2.1, fun p hp => ?_⟩
      rcases mem_set hp with hp | rfl
      · exact hb.2.2.2 p hp
      · cases torn
        · exact put_ok hr
        · exact torn_ok
    exact flFine_set h key i
theorem doStep_fine {s : St} {x : Sp} (hs : stFine s) (hx : spFine x) (torn : Bool) : stFine (doStep s x torn) := by
  obtain ⟨h1, h2, h3⟩ := hs
  obtain ⟨x1, x2, x3⟩ := hx
  unfold doStep
  split
  · rename_i hk
    split
    · exact ⟨h1, h2, h3⟩
    · refine ⟨h1, by rw [List.length_set]; exact h2, fun v hv => ?_⟩
      rcases mem_set hv with hv | rfl
      · exact h3 v hv
      · exact ⟨(x1 hk).2.2.1, (x1 hk).2.2.2⟩
  · split
    · rename_i hk
      have := x2 (.inl hk)
      exact ⟨wipeR_fine h1 (by omega) torn, h2, h3⟩
    · split
      · rename_i hk
        have := x2 (.inr hk)
        exact ⟨writeR_fine h1 (by omega) (x3 hk) torn, h2, h3⟩
      · exact ⟨h1, h2, h3⟩
theorem doAllOf_fine : ∀ {xs : List Sp} {s : St}, stFine s → (∀ x ∈ xs, spFine x) → stFine (doAllOf s xs)
  | [], _, hs, _ => hs
  | x :: xs, s, hs, hx => doAllOf_fine (xs := xs) (s := doStep s x false) (doStep_fine hs (hx x (List.mem_cons_self ..)) false) (fun y hy => hx y (List.mem_cons_of_mem _ hy))
theorem doTo_fine {s : St} {xs : List Sp} (hs : stFine s) (hx : ∀ x ∈ xs, spFine x) (cut : Int) (torn : Bool) : stFine (doTo s xs cut torn) := by
  have h1 := doAllOf_fine (xs := xs.take cut.toNat) hs (fun x h => hx x (List.mem_of_mem_take h))
  unfold doTo
  split
  · rename_i h
    refine doStep_fine h1 ?_ true
    have hl : cut.toNat < xs.length := by omega
    rw [List.getD_eq_getElem?_getD, List.getElem?_eq_getElem hl]
    exact hx _ (List.getElem_mem hl)
  · exact h1
theorem rec_of_written {p : Pg} (h : pageOk p = true) (h1 : p.state = 1) : recOk p.rc = true := by unfold pageOk at h; rw [if_pos h1] at h; exact h
theorem recOk_addr {r : Rc} (h : recOk r = true) : 1 ≤ r.addr ∧ r.addr ≤ 6 ∧ 0 ≤ r.val ∧ r.val ≤ 9 ∧ 1 ≤ r.seq ∧ r.seq ≤ 600 := by
  unfold recOk addrB valB at h
  simp at h
  omega
theorem told_fine {f : List Bk} {p : Pg} (hp : pageOk p = true) (h : told f p = true) : spFine (tellP p) := by
  unfold told live at h
  simp at h
  have := recOk_addr (rec_of_written hp h.1.1)
  exact ⟨fun _ => by unfold tellP; exact ⟨this.1, this.2.1, this.2.2.1, this.2.2.2.1⟩, fun h => by unfold tellP at h; simp at h, fun h => by unfold tellP at h; simp at h⟩
theorem openGo_range {f : List Bk} (h0 : 0 < f.length) : ∀ (r : List Bk) (i : Nat) (out : Int), i + r.length = f.length → -1 ≤ out → out < f.length → 0 ≤ (openGo f i out r).1 ∧ (openGo f i out r).1 < f.length
  | [], i, out, _, h1, h2 => by unfold openGo; dsimp only; omega
  | b :: r, i, out, hi, h1, h2 => by
    rw [List.length_cons] at hi
    unfold openGo
    split
    · dsimp only; omega
    · split
      · exact openGo_range h0 r _ _ (by omega) (by omega) (by omega)
      · exact openGo_range h0 r _ _ (by omega) h1 h2
theorem openB_range {f : List Bk} (h : f.length = 4) : 0 ≤ (openB f).1 ∧ (openB f).1 < 4 := by
  have := openGo_range (f := f) (by omega) f 0 (-1) (by omega) (by omega) (by omega)
  rw [h] at this
  exact this
theorem oldGo_lt {f : List Bk} : ∀ (r : List Bk) (i out : Nat), i + r.length = f.length → out < f.length → oldGo f i out r < f.length
  | [], _, _, _, h => h
  | b :: r, i, out, hi, h => by
    rw [List.length_cons] at hi
    unfold oldGo
    split
    · exact oldGo_lt r _ _ (by omega) (by omega)
    · exact oldGo_lt r _ _ (by omega) h
theorem old_lt4 {f : List Bk} (h : f.length = 4) : old f < 4 := by
  have := oldGo_lt (f := f) (f.drop 1) 1 0 (by simp; omega) (by omega)
  rw [h] at this; exact this
theorem room_fine {f : List Bk} (h : flFine f) : (∀ x ∈ (room f).1, spFine x) ∧ 0 ≤ (room f).2.1 ∧ (room f).2.1 < 4 := by
  have h1 := openB_range h.1
  have h2 := old_lt4 h.1
  have hb := flFine_get h h2
  unfold room
  split
  · exact ⟨fun x hx => absurd hx (by simp), h1.1, h1.2⟩
  · refine ⟨fun x hx => ?_, by dsimp only; omega, by dsimp only; omega⟩
    rcases List.mem_append.1 hx with hx | hx
    · unfold tells at hx
      obtain ⟨p, hp, rfl⟩ := List.mem_map.1 hx
      obtain ⟨hp1, hp2⟩ := List.mem_filter.1 hp
      exact told_fine (hb.2.2.2 p hp1) hp2
    · rw [List.mem_singleton] at hx
      subst hx
      exact ⟨fun h => by simp at h, fun _ => by dsimp only; omega, fun h => by simp at h⟩
theorem wr_fine {f : List Bk} (h : flFine f) (k a v : Int) : ∀ x ∈ wr f k a v, spFine x := by
  intro x hx
  obtain ⟨h1, h2, h3⟩ := room_fine h
  unfold wr at hx
  split at hx
  · simp at hx
  · rename_i hn
    rcases List.mem_append.1 hx with hx | hx
    · exact h1 x hx
    · rw [List.mem_singleton] at hx
      subst hx
      refine ⟨fun h => by simp at h, fun _ => ⟨h2, h3⟩, fun _ => ?_⟩
      dsimp only
      rcases Bool.eq_false_or_eq_true (recOk ⟨k, next f, a, v⟩) with h | h
      · exact h
      · exact absurd (.inr h) hn
theorem lastPs_inv {a : Int} : ∀ {ps : List Pg} {o : Rc}, (∀ p ∈ ps, pageOk p = true) → (o = rc0 ∨ (recOk o = true ∧ o.addr = a)) → (lastPs a o ps = rc0 ∨ (recOk (lastPs a o ps) = true ∧ (lastPs a o ps).addr = a))
  | [], _, _, h => h
  | p :: ps, o, hp, h => by
    refine lastPs_inv (ps := ps) (o := lastStep a o p) (fun q hq => hp q (List.mem_cons_of_mem _ hq)) ?_
    unfold lastStep
    split
    · rename_i hh
      exact .inr ⟨rec_of_written (hp p (List.mem_cons_self ..)) hh.1, hh.2.1⟩
    · exact h
theorem last_inv {f : List Bk} (h : ∀ b ∈ f, ∀ p ∈ b.pages, pageOk p = true) (a : Int) : last f a = rc0 ∨ (recOk (last f a) = true ∧ (last f a).addr = a) := by
  have key : ∀ (g : List Bk) (o : Rc), (∀ b ∈ g, ∀ p ∈ b.pages, pageOk p = true) → (o = rc0 ∨ (recOk o = true ∧ o.addr = a)) → (g.foldl (fun o b => lastPs a o b.pages) o = rc0 ∨ (recOk (g.foldl (fun o b => lastPs a o b.pages) o) = true ∧ (g.foldl (fun o b => lastPs a o b.pages) o).addr = a)) := by
    intro g
    induction g with
    | nil => intro o _ h; exact h
    | cons b g ih => intro o hg h; exact ih _ (fun c hc => hg c (List.mem_cons_of_mem _ hc)) (lastPs_inv (hg b (List.mem_cons_self ..)) h)
  exact key f rc0 h (.inl rfl)
theorem last_found {f : List Bk} (h : ∀ b ∈ f, ∀ p ∈ b.pages, pageOk p = true) {a : Int} (h0 : 0 < (last f a).seq) : recOk (last f a) = true ∧ (last f a).addr = a := by
  rcases last_inv h a with h1 | h1
  · rw [h1] at h0; exact absurd h0 (by decide)
  · exact h1
theorem disk_get {xs : List Int} (h : xs.length = 6) (hv : ∀ v ∈ xs, 0 ≤ v ∧ v ≤ 9) {i : Nat} (hi : i < 6) : 0 ≤ xs.getD i 0 ∧ xs.getD i 0 ≤ 9 := by
  have hl : i < xs.length := by omega
  rw [List.getD_eq_getElem?_getD, List.getElem?_eq_getElem hl]
  exact hv _ (List.getElem_mem hl)
theorem flFine_pages {f : List Bk} (h : flFine f) : ∀ b ∈ f, ∀ p ∈ b.pages, pageOk p = true := fun b hb => (h.2 b hb).2.2.2
theorem readV_fine {s : St} (h : stFine s) {a : Int} (h1 : 1 ≤ a) (h2 : a ≤ 6) : 0 ≤ readV s a ∧ readV s a ≤ 9 := by
  unfold readV
  split
  · rename_i h0
    have := recOk_addr (last_found (flFine_pages h.1) h0).1
    omega
  · exact disk_get h.2.1 h.2.2 (by omega)
theorem flush_fine {s : St} (h : stFine s) (a : Int) : ∀ x ∈ flush s a, spFine x := by
  intro x hx
  unfold flush at hx
  split at hx
  · simp at hx
  · rename_i hn
    split at hx
    · simp at hx
    · have ha : addrB a = true := by
        rcases Bool.eq_false_or_eq_true (addrB a) with h | h
        · exact h
        · exact absurd (.inl h) hn
      have ha2 : 1 ≤ a ∧ a ≤ 6 := by unfold addrB at ha; simpa using ha
      rcases List.mem_cons.1 hx with rfl | hx
      · have := readV_fine h ha2.1 ha2.2
        exact ⟨fun _ => ⟨ha2.1, ha2.2, this.1, this.2⟩, fun h => by simp at h, fun h => by simp at h⟩
      · exact wr_fine h.1 _ _ _ x hx
theorem fill_fine {s : St} (h : stFine s) (a : Int) : ∀ x ∈ fill s a, spFine x := by
  intro x hx
  unfold fill at hx
  split at hx
  · simp at hx
  · exact wr_fine h.1 _ _ _ x hx
theorem stepsOf_fine {s : St} (h : stFine s) (e : Ev) : ∀ x ∈ stepsOf s e, spFine x := by
  intro x hx
  unfold stepsOf at hx
  split at hx
  · exact wr_fine h.1 _ _ _ x hx
  · split at hx
    · exact flush_fine h _ x hx
    · split at hx
      · exact fill_fine h _ x hx
      · simp at hx
theorem doFlush_fine {s : St} (h : stFine s) (a : Int) : stFine (doFlush s a) := doTo_fine h (flush_fine h a) _ _
theorem doEvery_fine {s : St} (h : stFine s) : stFine (doEvery s) := by
  have key : ∀ (l : List Int) (s : St), stFine s → stFine (l.foldl doFlush s) := by
    intro l
    induction l with
    | nil => intro s h; exact h
    | cons a l ih => intro s h; exact ih _ (doFlush_fine h a)
  exact key _ s h
theorem doEv_fine {s : St} (h : stFine s) (e : Ev) : stFine (doEv s e) := by
  unfold doEv
  split
  · exact doEvery_fine h
  · split
    · exact h
    · exact doTo_fine h (stepsOf_fine h e) _ _
theorem pageOk_seq {p : Pg} (h : pageOk p = true) : p.rc.seq ≤ 600 := by
  unfold pageOk at h
  split at h
  · exact (recOk_addr h).2.2.2.2.2
  · split at h
    · have : p.rc = rc0 := by simpa using h
      rw [this]; decide
    · cases h
theorem mostPs_le : ∀ {ps : List Pg} {n : Int}, (∀ p ∈ ps, pageOk p = true) → n ≤ 600 → mostPs n ps ≤ 600
  | [], _, _, h => h
  | p :: ps, n, hp, h => mostPs_le (ps := ps) (n := max n p.rc.seq) (fun q hq => hp q (List.mem_cons_of_mem _ hq)) (by have := pageOk_seq (hp p (List.mem_cons_self ..)); omega)
theorem most_small {f : List Bk} (h : flFine f) : ∀ b ∈ f, most b < 1000000000000 := fun b hb => by
  have : most b ≤ 600 := mostPs_le (flFine_pages h b hb) (by omega)
  omega
end Go.Proofs.Ytfkjhnfbajflaaa
