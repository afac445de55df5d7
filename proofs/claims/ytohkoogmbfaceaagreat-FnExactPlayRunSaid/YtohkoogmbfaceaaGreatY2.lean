/- What the laws' walks share: words, plain laws, and the walks of functions, part 2. -/
import Derived.Deep.RegionHeld3
import Derived.Deep.AppendLies
import Derived.Deep.Onto
import Derived.OwnWalk
import Derived.BigQuiet
import Derived.Deep.RegionWith
import Derived.RangeFuncNested
import Derived.RangeFuncCalls
import Derived.OrdersIn
import Derived.Test.YtohkoogmbfaceaaGreatY1
namespace Go.Proofs.YtohkoogmbfaceaaGreat
set_option linter.unusedVariables false
set_option linter.unusedSimpArgs false
theorem mem_set {α : Type} {l : List α} {i : Nat} {x y : α} (h : y ∈ l.set i x) : y ∈ l ∨ y = x := List.mem_or_eq_of_mem_set h
theorem pg0_ok : pageOk ⟨0, rc0⟩ = true := by decide
theorem torn_ok : pageOk ⟨2, rc0⟩ = true := by decide
theorem put_ok {r : Rc} (h : recOk r = true) : pageOk ⟨1, r⟩ = true := by unfold pageOk; simpa using h
theorem flFine_get {f : List Bk} (h : flFine f) {i : Nat} (hi : i < 4) : bkFine (f.getD i zbk) := by
  have hl : i < f.length := by have := h.1; omega
  rw [List.getD_eq_getElem?_getD, List.getElem?_eq_getElem hl]
  exact h.2 _ (List.getElem_mem hl)
theorem flFine_set {f : List Bk} {b : Bk} (h : flFine f) (hb : bkFine b) (i : Nat) : flFine (f.set i b) :=
  ⟨by rw [List.length_set]; exact h.1, fun c hc => by rcases mem_set hc with hc | rfl; exact h.2 c hc; exact hb⟩
theorem wipeR_fine {f : List Bk} (h : flFine f) {i : Nat} (hi : i < 4) (torn : Bool) : flFine (wipeR f i torn).1 := by
  have hb := flFine_get h hi
  unfold wipeR wipe
  split
  · exact h
  · rename_i hw
    refine flFine_set h ⟨by simp, by have := hb.2.1; show 0 ≤ (f.getD i zbk).worn + 1; omega, by show (f.getD i zbk).worn + 1 ≤ 200; omega, fun p hp => ?_⟩ i
    have := List.eq_of_mem_replicate hp
    subst this
    cases torn
    · exact pg0_ok
    · exact torn_ok
theorem writeR_fine {f : List Bk} (h : flFine f) {i : Nat} (hi : i < 4) {r : Rc} (hr : recOk r = true) (torn : Bool) : flFine (writeR f i r torn).1 := by
  have hb := flFine_get h hi
  unfold writeR
  split
  · exact h
  · have key : bkFine ⟨(f.getD i zbk).pages.set (4 - clean (f.getD i zbk)) (if torn then ⟨2, rc0⟩ else ⟨1, r⟩), (f.getD i zbk).worn⟩ := by
      refine ⟨by show ((f.getD i zbk).pages.set _ _).length = 4; rw [List.length_set]; exact hb.1, hb.2.1, hb.2.2.1, fun p hp => ?_⟩
      rcases mem_set hp with hp | rfl
      · exact hb.2.2.2 p hp
      · cases torn
        · exact put_ok hr
        · exact torn_ok
    exact flFine_set h key i
theorem doStep_fine {s : St} {x : Sp} (hs : stFine s) (hx : spFine x) (torn : Bool) : stFine (doStep s x torn) := by
  obtain ⟨h1, h2, h3⟩ := hs
  obtain ⟨x1, x2, x3⟩ := hx
  unfold doStep
  split
  · rename_i hk
    split
    · exact ⟨h1, h2, h3⟩
    · refine ⟨h1, by rw [List.length_set]; exact h2, fun v hv => ?_⟩
      rcases mem_set hv with hv | rfl
      · exact h3 v hv
      · exact ⟨(x1 hk).2.2.1, (x1 hk).2.2.2⟩
  · split
    · rename_i hk
      have := x2 (.inl hk)
      exact ⟨wipeR_fine h1 (by omega) torn, h2, h3⟩
    · split
      · rename_i hk
        have := x2 (.inr hk)
        exact ⟨writeR_fine h1 (by omega) (x3 hk) torn, h2, h3⟩
      · exact ⟨h1, h2, h3⟩
theorem doAllOf_fine : ∀ {xs : List Sp} {s : St}, stFine s → (∀ x ∈ xs, spFine x) → stFine (doAllOf s xs)
  | [], _, hs, _ => hs
  | x :: xs, s, hs, hx => doAllOf_fine (xs := xs) (s := doStep s x false) (doStep_fine hs (hx x (List.mem_cons_self ..)) false) (fun y hy => hx y (List.mem_cons_of_mem _ hy))
theorem doTo_fine {s : St} {xs : List Sp} (hs : stFine s) (hx : ∀ x ∈ xs, spFine x) (cut : Int) (torn : Bool) : stFine (doTo s xs cut torn) := by
  have h1 := doAllOf_fine (xs := xs.take cut.toNat) hs (fun x h => hx x (List.mem_of_mem_take h))
  unfold doTo
  split
  · rename_i h
    refine doStep_fine h1 ?_ true
    have hl : cut.toNat < xs.length := by omega
    rw [List.getD_eq_getElem?_getD, List.getElem?_eq_getElem hl]
    exact hx _ (List.getElem_mem hl)
  · exact h1
theorem rec_of_written {p : Pg} (h : pageOk p = true) (h1 : p.state = 1) : recOk p.rc = true := by unfold pageOk at h; rw [if_pos h1] at h; exact h
theorem recOk_addr {r : Rc} (h : recOk r = true) : 1 ≤ r.addr ∧ r.addr ≤ 6 ∧ 0 ≤ r.val ∧ r.val ≤ 9 ∧ 1 ≤ r.seq ∧ r.seq ≤ 600 := by
  unfold recOk addrB valB at h
  simp at h
  omega
theorem told_fine {f : List Bk} {p : Pg} (hp : pageOk p = true) (h : told f p = true) : spFine (tellP p) := by
  unfold told live at h
  simp at h
  have := recOk_addr (rec_of_written hp h.1.1)
  exact ⟨fun _ => by unfold tellP; exact ⟨this.1, this.2.1, this.2.2.1, this.2.2.2.1⟩, fun h => by unfold tellP at h; simp at h, fun h => by unfold tellP at h; simp at h⟩
theorem openGo_range {f : List Bk} (h0 : 0 < f.length) : ∀ (r : List Bk) (i : Nat) (out : Int), i + r.length = f.length → -1 ≤ out → out < f.length → 0 ≤ (openGo f i out r).1 ∧ (openGo f i out r).1 < f.length
  | [], i, out, _, h1, h2 => by unfold openGo; dsimp only; omega
  | b :: r, i, out, hi, h1, h2 => by
    rw [List.length_cons] at hi
    unfold openGo
    split
    · dsimp only; omega
    · split
      · exact openGo_range h0 r _ _ (by omega) (by omega) (by omega)
      · exact openGo_range h0 r _ _ (by omega) h1 h2
theorem openB_range {f : List Bk} (h : f.length = 4) : 0 ≤ (openB f).1 ∧ (openB f).1 < 4 := by
  have := openGo_range (f := f) (by omega) f 0 (-1) (by omega) (by omega) (by omega)
  rw [h] at this
  exact this
theorem oldGo_lt {f : List Bk} : ∀ (r : List Bk) (i out : Nat), i + r.length = f.length → out < f.length → oldGo f i out r < f.length
  | [], _, _, _, h => h
  | b :: r, i, out, hi, h => by
    rw [List.length_cons] at hi
    unfold oldGo
    split
    · exact oldGo_lt r _ _ (by omega) (by omega)
    · exact oldGo_lt r _ _ (by omega) h
theorem old_lt4 {f : List Bk} (h : f.length = 4) : old f < 4 := by
  have := oldGo_lt (f := f) (f.drop 1) 1 0 (by simp; omega) (by omega)
  rw [h] at this; exact this
theorem room_fine {f : List Bk} (h : flFine f) : (∀ x ∈ (room f).1, spFine x) ∧ 0 ≤ (room f).2.1 ∧ (room f).2.1 < 4 := by
  have h1 := openB_range h.1
  have h2 := old_lt4 h.1
  have hb := flFine_get h h2
  unfold room
  split
  · exact ⟨fun x hx => absurd hx (by simp), h1.1, h1.2⟩
  · refine ⟨fun x hx => ?_, by dsimp only; omega, by dsimp only; omega⟩
    rcases List.mem_append.1 hx with hx | hx
    · unfold tells at hx
      obtain ⟨p, hp, rfl⟩ := List.mem_map.1 hx
      obtain ⟨hp1, hp2⟩ := List.mem_filter.1 hp
      exact told_fine (hb.2.2.2 p hp1) hp2
    · rw [List.mem_singleton] at hx
      subst hx
      exact ⟨fun h => by simp at h, fun _ => by dsimp only; omega, fun h => by simp at h⟩
theorem wr_fine {f : List Bk} (h : flFine f) (k a v : Int) : ∀ x ∈ wr f k a v, spFine x := by
  intro x hx
  obtain ⟨h1, h2, h3⟩ := room_fine h
  unfold wr at hx
  split at hx
  · simp at hx
  · rename_i hn
    rcases List.mem_append.1 hx with hx | hx
    · exact h1 x hx
    · rw [List.mem_singleton] at hx
      subst hx
      refine ⟨fun h => by simp at h, fun _ => ⟨h2, h3⟩, fun _ => ?_⟩
      dsimp only
      rcases Bool.eq_false_or_eq_true (recOk ⟨k, next f, a, v⟩) with h | h
      · exact h
      · exact absurd (.inr h) hn
theorem lastPs_inv {a : Int} : ∀ {ps : List Pg} {o : Rc}, (∀ p ∈ ps, pageOk p = true) → (o = rc0 ∨ (recOk o = true ∧ o.addr = a)) → (lastPs a o ps = rc0 ∨ (recOk (lastPs a o ps) = true ∧ (lastPs a o ps).addr = a))
  | [], _, _, h => h
  | p :: ps, o, hp, h => by
    refine lastPs_inv (ps := ps) (o := lastStep a o p) (fun q hq => hp q (List.mem_cons_of_mem _ hq)) ?_
    unfold lastStep
    split
    · rename_i hh
      exact .inr ⟨rec_of_written (hp p (List.mem_cons_self ..)) hh.1, hh.2.1⟩
    · exact h
theorem last_inv {f : List Bk} (h : ∀ b ∈ f, ∀ p ∈ b.pages, pageOk p = true) (a : Int) : last f a = rc0 ∨ (recOk (last f a) = true ∧ (last f a).addr = a) := by
  have key : ∀ (g : List Bk) (o : Rc), (∀ b ∈ g, ∀ p ∈ b.pages, pageOk p = true) → (o = rc0 ∨ (recOk o = true ∧ o.addr = a)) → (g.foldl (fun o b => lastPs a o b.pages) o = rc0 ∨ (recOk (g.foldl (fun o b => lastPs a o b.pages) o) = true ∧ (g.foldl (fun o b => lastPs a o b.pages) o).addr = a)) := by
    intro g
    induction g with
    | nil => intro o _ h; exact h
    | cons b g ih => intro o hg h; exact ih _ (fun c hc => hg c (List.mem_cons_of_mem _ hc)) (lastPs_inv (hg b (List.mem_cons_self ..)) h)
  exact key f rc0 h (.inl rfl)
theorem last_found {f : List Bk} (h : ∀ b ∈ f, ∀ p ∈ b.pages, pageOk p = true) {a : Int} (h0 : 0 < (last f a).seq) : recOk (last f a) = true ∧ (last f a).addr = a := by
  rcases last_inv h a with h1 | h1
  · rw [h1] at h0; exact absurd h0 (by decide)
  · exact h1
theorem disk_get {xs : List Int} (h : xs.length = 6) (hv : ∀ v ∈ xs, 0 ≤ v ∧ v ≤ 9) {i : Nat} (hi : i < 6) : 0 ≤ xs.getD i 0 ∧ xs.getD i 0 ≤ 9 := by
  have hl : i < xs.length := by omega
  rw [List.getD_eq_getElem?_getD, List.getElem?_eq_getElem hl]
  exact hv _ (List.getElem_mem hl)
theorem flFine_pages {f : List Bk} (h : flFine f) : ∀ b ∈ f, ∀ p ∈ b.pages, pageOk p = true := fun b hb => (h.2 b hb).2.2.2
theorem readV_fine {s : St} (h : stFine s) {a : Int} (h1 : 1 ≤ a) (h2 : a ≤ 6) : 0 ≤ readV s a ∧ readV s a ≤ 9 := by
  unfold readV
  split
  · rename_i h0
    have := recOk_addr (last_found (flFine_pages h.1) h0).1
    omega
  · exact disk_get h.2.1 h.2.2 (by omega)
theorem flush_fine {s : St} (h : stFine s) (a : Int) : ∀ x ∈ flush s a, spFine x := by
  intro x hx
  unfold flush at hx
  split at hx
  · simp at hx
  · rename_i hn
    split at hx
    · simp at hx
    · have ha : addrB a = true := by
        rcases Bool.eq_false_or_eq_true (addrB a) with h | h
        · exact h
        · exact absurd (.inl h) hn
      have ha2 : 1 ≤ a ∧ a ≤ 6 := by unfold addrB at ha; simpa using ha
      rcases List.mem_cons.1 hx with rfl | hx
      · have := readV_fine h ha2.1 ha2.2
        exact ⟨fun _ => ⟨ha2.1, ha2.2, this.1, this.2⟩, fun h => by simp at h, fun h => by simp at h⟩
      · exact wr_fine h.1 _ _ _ x hx
theorem fill_fine {s : St} (h : stFine s) (a : Int) : ∀ x ∈ fill s a, spFine x := by
  intro x hx
  unfold fill at hx
  split at hx
  · simp at hx
  · exact wr_fine h.1 _ _ _ x hx
theorem stepsOf_fine {s : St} (h : stFine s) (e : Ev) : ∀ x ∈ stepsOf s e, spFine x := by
  intro x hx
  unfold stepsOf at hx
  split at hx
  · exact wr_fine h.1 _ _ _ x hx
  · split at hx
    · exact flush_fine h _ x hx
    · split at hx
      · exact fill_fine h _ x hx
      · simp at hx
theorem doFlush_fine {s : St} (h : stFine s) (a : Int) : stFine (doFlush s a) := doTo_fine h (flush_fine h a) _ _
theorem pageOk_seq {p : Pg} (h : pageOk p = true) : p.rc.seq ≤ 600 := by
  unfold pageOk at h
  split at h
  · exact (recOk_addr h).2.2.2.2.2
  · split at h
    · have : p.rc = rc0 := by simpa using h
      rw [this]; decide
    · cases h
theorem mostPs_le : ∀ {ps : List Pg} {n : Int}, (∀ p ∈ ps, pageOk p = true) → n ≤ 600 → mostPs n ps ≤ 600
  | [], _, _, h => h
  | p :: ps, n, hp, h => mostPs_le (ps := ps) (n := max n p.rc.seq) (fun q hq => hp q (List.mem_cons_of_mem _ hq)) (by have := pageOk_seq (hp p (List.mem_cons_self ..)); omega)
theorem most_small {f : List Bk} (h : flFine f) : ∀ b ∈ f, most b < 1000000000000 := fun b hb => by
  have : most b ≤ 600 := mostPs_le (flFine_pages h b hb) (by omega)
  omega
end Go.Proofs.YtohkoogmbfaceaaGreat
namespace Go.Proofs.YtohkoogmbfaceaaGreat
set_option linter.unusedVariables false
set_option linter.unusedSimpArgs false
open Go.RowKit Go.Shelf
attribute [local go_sem] Oper.semAt_some
set_option maxHeartbeats 400000
set_option maxHeartbeats 1000000 in
theorem eachPage_in (F : Fence) (n : Nat) (h : F.fn 62) (hro : F.round = none) (a : Option Addr) (len cap : Nat) (w : World) :
    CallsIn F n Tryz.prog 62 #[.slice a len cap] w fun e w' => e = .returned (.func (.func 81) #[] #[.pointer (some ⟨w.heap.size, 0, none⟩)]) ∧ w' = w.alloc (.cells #[.slice a len cap] 24) := by
  refine callsIn_of_wp Tryz.func62 rfl h ?_ hro
  simp only [Tryz.ntmps62, List.size_toArray, List.length_cons, List.length_nil, Nat.reduceAdd, Nat.reduceSub, Array.replicate_succ, Array.replicate_zero, List.push_toArray, List.append_toArray, List.nil_append, List.cons_append]
  gi_wp2
  go_ret
  exact ⟨rfl, rfl⟩
theorem eachPage_stops (F : Fence) (n : Nat) (hF : F.fn 81) (hro : F.round = none) (hn : 1 ≤ n) (Bs n₀ g o c : Nat) (f : List Bk) (hs : List (Option Addr × Nat)) (w : World) (hB : Bs < w.heap.size) (hn₀ : n₀ ≤ w.heap.size)
    (hBs : w.cell? ⟨Bs, 0, none⟩ = some (.slice (some ⟨g, o, none⟩) f.length c)) (hl : f.length < 1000000000000) (hp : ∀ b ∈ f, b.pages.length < 1000000000000)
    (hBk : Bks w (some ⟨g, o, none⟩) f hs) (hlow : ∀ b, fblk (some ⟨g, o, none⟩) hs b → b < n₀) :
    SeqStopsK F n Tryz.prog 81 #[.pointer (some ⟨Bs, 0, none⟩)] encP (Below n₀) (fun ys => ys = allFrom 0 f) (fun pre => pre <+: allFrom 0 f) (allFrom 0 f).length w := fun l J Jx W hW hJ _ hY h0 => by
  refine eachPage1_in F n hF hro hn l Bs n₀ g o c f hs J Jx W (Nat.le_trans hn₀ hW.size) hJ (fun pre x W1 h1 h2 _ => hY pre x W1 h1 h2) ((hW.cell (p := ⟨Bs, 0, none⟩) hB).trans hBs) hl hp (hBk.keep fun q hq hl => hW.block q (by omega)) hlow h0
/-- the greatest number of pages that have come -/
def bigStep (n : Int) (x : PgAt) : Int := if x.2.2.state = 1 then max n x.2.2.rc.seq else n
def bigOf (pre : List PgAt) : Int := pre.foldl bigStep 0
theorem bigOf_snoc (pre : List PgAt) (x : PgAt) : bigOf (pre ++ [x]) = bigStep (bigOf pre) x := by unfold bigOf; rw [List.foldl_append]; rfl
theorem mem_tag {i : Nat} {x : PgAt} : ∀ {ps : List Pg} {j : Nat}, x ∈ tagFrom i j ps → x.2.2 ∈ ps
  | [], _, h => by simp [tagFrom] at h
  | p :: ps, j, h => by
    rw [tagFrom] at h
    rcases List.mem_cons.1 h with rfl | h
    · exact List.mem_cons_self ..
    · exact List.mem_cons_of_mem _ (mem_tag h)
theorem mem_all {x : PgAt} : ∀ {f : List Bk} {i : Nat}, x ∈ allFrom i f → ∃ b ∈ f, x.2.2 ∈ b.pages
  | [], _, h => by simp [allFrom] at h
  | b :: f, i, h => by
    rw [allFrom] at h
    rcases List.mem_append.1 h with h | h
    · exact ⟨b, List.mem_cons_self .., mem_tag h⟩
    · obtain ⟨c, hc, hx⟩ := mem_all h
      exact ⟨c, List.mem_cons_of_mem _ hc, hx⟩
theorem big_range : ∀ {xs : List PgAt} {n : Int}, (∀ x ∈ xs, pageOk x.2.2 = true) → 0 ≤ n → n ≤ 600 → 0 ≤ xs.foldl bigStep n ∧ xs.foldl bigStep n ≤ 600
  | [], n, _, h1, h2 => ⟨h1, h2⟩
  | x :: xs, n, h, h1, h2 => by
    have hx := pageOk_seq (h x (List.mem_cons_self ..))
    refine big_range (xs := xs) (n := bigStep n x) (fun y hy => h y (List.mem_cons_of_mem _ hy)) ?_ ?_
    · unfold bigStep; split <;> omega
    · unfold bigStep; split <;> omega
theorem bigOf_range {f : List Bk} (h : flashOk f = true) : 0 ≤ bigOf (allFrom 0 f) ∧ bigOf (allFrom 0 f) ≤ 600 := by
  refine big_range (fun x hx => ?_) (by omega) (by omega)
  obtain ⟨b, hb, hx⟩ := mem_all hx
  have := blocksGo_true (f := f) (seen := []) (by unfold flashOk at h; simp at h; exact h.2) b hb
  exact this.2 _ hx
/-- cells laid in a block -/
def Laid (W : World) (B : Nat) (t : TypeId) (cs : Array Value) : Prop := W.heap[B]? = some (.cells cs t (0, 0))
theorem Laid.lt {W : World} {B : Nat} {t : TypeId} {cs : Array Value} (h : Laid W B t cs) : B < W.heap.size := (Array.getElem?_eq_some_iff.1 h).1
theorem Laid.cell {W : World} {B : Nat} {t : TypeId} {cs : Array Value} (h : Laid W B t cs) (i : Nat) {u : Value} (hu : cs[i]? = some u) : W.cell? ⟨B, i, none⟩ = some u := by simp [World.cell?, show W.heap[B]? = _ from h, hu]
theorem laid_own (B : Nat) (t : TypeId) (cs : Array Value) (n₀ : Nat) : OwnFrom n₀ (fun (_ : Unit) W => Laid W B t cs) := fun _ X Y row hs hg hr =>
  (hg.block B hs.lt (fun e' => by obtain ⟨_, o, ho, hc⟩ := hr B e'.symm; rw [show X.heap[B]? = _ from hs] at ho; cases ho; cases hc)).trans hs
def pgv (p : Pg) : Array Value := #[.int .i64 p.state, .int .i64 p.rc.kind, .int .i64 p.rc.seq, .int .i64 p.rc.addr, .int .i64 p.rc.val]
def findNext (f : List Bk) : Int := if flashOk f = true then bigOf (allFrom 0 f) + 1 else 0
set_option maxRecDepth 100000 in
set_option maxHeartbeats 4000000 in
theorem impl_FindNext (f : List Bk) (A : Option Addr) (n c : Nat) (w : World) (hn : n = f.length) (hF : Fl w A f) :
    Calls Tryz.prog 97 #[.slice A n c] w fun e w' => e = .returned (.int .i64 (findNext f)) ∧ Below w.heap.size w w' := by
  subst hn
  refine (callsIn_wide (n := 6)).1 ?_
  refine callsIn_of_wp_marks Tryz.func97 rfl trivial ?_ rfl
  simp only [Tryz.ntmps97, List.size_toArray, List.length_cons, List.length_nil, Nat.reduceAdd, Nat.reduceSub, Array.replicate_succ, Array.replicate_zero, List.push_toArray, List.append_toArray, List.nil_append, List.cons_append]
  by_cases hok : flashOk f = true
  · have hfl := flashOk_len hok
    have HFL := Lib.hid hfl
    have hfin : Hid (findNext f = bigOf (allFrom 0 f) + 1) := by unfold Hid findNext; rw [if_pos hok]
    have HP := Lib.hid (show ∀ b ∈ f, b.pages.length < 1000000000000 from fun b hb => by rw [(flashOk_shape hok b hb).1]; omega)
    obtain ⟨hs, hBk⟩ := hF
    have hFc := Lib.hid (impl_FlashOk f A c w ⟨hs, hBk⟩)
    rw [hok] at hFc
    have hrg := bigOf_range hok
    have HPL := Lib.hid (fun b hb => (flashOk_shape hok b hb).1)
    clear hfl hok
    gi_wp2_with (first | (refine ⟨trivial, ?_⟩; gi_at_call 59; refine (callsIn_wide.2 hFc.out).mono ?_; rintro e w1 ⟨rfl, hb1⟩) | (refine ⟨trivial, ?_⟩; gi_at_call 62; refine (eachPage_in Fence.wide _ trivial rfl _ _ _ _).mono ?_; rintro e w2 ⟨rfl, rfl⟩))
    obtain ⟨g, o, rfl⟩ := hBk.addr (by intro e; have := HFL.out; rw [e] at this; simp at this)
    have hlow : ∀ b, fblk (some ⟨g, o, none⟩) hs b → b < w1.heap.size := fun b hb => by
      have h4 := HFL.out
      have hs1 := hb1.size
      rcases hb with hb | ⟨i, x, hx, hb⟩
      · rw [blk_some] at hb
        subst hb
        obtain ⟨B, hB⟩ := get_some (l := f) (k := 0) (by omega)
        obtain ⟨_, _, c0, _⟩ := hBk.at_ hB
        have := lt_of_cell c0
        omega
      · obtain ⟨B, hB⟩ := get_some (l := f) (k := i) (by rw [← hBk.len]; exact (List.getElem?_eq_some_iff.1 hx).1)
        have hr := (hBk.pg i B x hB hx).1
        by_cases hn : B.pages = []
        · have := HPL.out B (List.mem_of_getElem? hB); rw [hn] at this; simp at this
        · obtain ⟨b', o', he, hc⟩ := hr (pgs_ne hn)
          rw [he, blk_some] at hb
          subst hb
          obtain ⟨q, hq⟩ := get_some (l := pgs B.pages) (k := 0) (by rw [pgs_len]; have := List.length_pos_iff.2 hn; omega)
          have := lt_of_cell (hc 0 q hq).1
          omega
    have hBk1 := hBk.below hb1 (Nat.le_refl _)
    have bS := (Boxed.new w1 3 (.int .i64 0)).alloc (.cells #[.slice (some ⟨g, o, none⟩) f.length c] 24)
    have bA := Boxed.new (w1.alloc (.cells #[.int .i64 0] 3)) 24 (.slice (some ⟨g, o, none⟩) f.length c)
    simp only [World.size_alloc] at bA
    have hB0 : Below w1.heap.size w1 ((w1.alloc (.cells #[.int .i64 0] 3)).alloc (.cells #[.slice (some ⟨g, o, none⟩) f.length c] 24)) := ((Below.refl _ w1).alloc (Nat.le_refl _) _).alloc (by simp) _
    have hsz : ((w1.alloc (.cells #[.int .i64 0] 3)).alloc (.cells #[.slice (some ⟨g, o, none⟩) f.length c] 24)).heap.size = w1.heap.size + 2 := by simp
    have hBk2 := (hBk1.alloc (.cells #[.int .i64 0] 3)).alloc (.cells #[.slice (some ⟨g, o, none⟩) f.length c] 24)
    obtain ⟨W0, hW0⟩ : ∃ W0, (w1.alloc (.cells #[.int .i64 0] 3)).alloc (.cells #[.slice (some ⟨g, o, none⟩) f.length c] 24) = W0 := ⟨_, rfl⟩
    rw [hW0] at bS bA hB0 hsz hBk2 ⊢
    have hl4 : f.length < 1000000000000 := by rw [HFL.out]; omega
    clear hW0 hBk hBk1
    refine wpIn_rangeFunc_ownH rfl (by omega) (gf := 81) (lb := #[.pointer (some ⟨w1.heap.size + 1, 0, none⟩)]) rfl trivial (enters_of Tryz.func81 (by kernel_rfl) rfl)
      (eachPage_stops Fence.wide _ trivial rfl (by omega) (w1.heap.size + 1) w1.heap.size g o c f hs W0 (by omega) (by omega) bA.cell hl4 HP.out hBk2 hlow) belowK_t (belowK_b (by omega)) (Below.refl _ _) (fun _ => rfl)
      (fun pre W => Boxed W w1.heap.size 3 (.int .i64 (bigOf pre)) ∧ Below w1.heap.size w1 W)
      (fun _ _ _ => False)
      (OwnFrom.and (Own.from (boxed_own _ _ _) _) (ownFrom_below (Nat.le_refl _) (by omega)))
      (fun _ _ _ _ _ hs _ _ => hs)
      ⟨bS, hB0⟩
      (fun x a' W => ∃ Bx, w1.heap.size < Bx ∧ Laid W Bx 71 (pgv x.2.2) ∧ a' = { tmps := #[.slice (some ⟨g, o, none⟩) f.length c, undef, .int .i64 0, .pointer (some ⟨w1.heap.size, 0, none⟩), undef, .pointer (some ⟨Bx, 0, none⟩), .slice (some ⟨g, o, none⟩) f.length c, .bool true, .bool false, .slice (some ⟨g, o, none⟩) f.length c, .func (.func 81) #[] #[.pointer (some ⟨w1.heap.size + 1, 0, none⟩)], .agg #[.int .i64 (x.1 : Int), .int .i64 (x.2.1 : Int)], .agg (pgv x.2.2), undef, undef, undef, undef, undef, undef, undef, undef, undef, undef], defers := [] })
      (fun x a' _ X Y row hs hg hr => by obtain ⟨Bx, h1, h2, h3⟩ := hs; exact ⟨Bx, h1, laid_own Bx _ _ _ () X Y row h2 hg hr, h3⟩)
      ?assign ?body ?done ?stop
    case assign =>
      rintro l pre x W K ⟨bS1, hB1⟩ hK
      dsimp only [encP]
      gi_wp2
      exact hK _ _ ((KeepsOthers.alloc _ _).from _) ((Below.refl _ W).alloc hB1.size _) ⟨bS1.alloc _, hB1.alloc hB1.size _⟩ ⟨W.heap.size, bS1.lt, World.alloc_heap_new W _, rfl⟩
    case body =>
      rintro l pre x a' W hl ⟨r, hr⟩ ⟨bS1, hB1⟩ ⟨Bx, hBx, bX, rfl⟩ hlt
      have cS := bS1.cell
      have fS := bS1.frozen
      have x0 : W.cell? ⟨Bx, 0, none⟩ = some (.int .i64 x.2.2.state) := bX.cell 0 rfl
      have x1 : W.cell? ⟨Bx, 1, none⟩ = some (.int .i64 x.2.2.rc.kind) := bX.cell 1 rfl
      have x2 : W.cell? ⟨Bx, 2, none⟩ = some (.int .i64 x.2.2.rc.seq) := bX.cell 2 rfl
      have x3 : W.cell? ⟨Bx, 3, none⟩ = some (.int .i64 x.2.2.rc.addr) := bX.cell 3 rfl
      have x4 : W.cell? ⟨Bx, 4, none⟩ = some (.int .i64 x.2.2.rc.val) := bX.cell 4 rfl
      by_cases h1 : x.2.2.state = 1
      · have hst : Hid (bigOf (pre ++ [x]) = max (bigOf pre) x.2.2.rc.seq) := by rw [Hid, bigOf_snoc]; unfold bigStep; rw [if_pos h1]
        rw [h1] at x0
        gi_wp2
        · have hm : max (bigOf pre) x.2.2.rc.seq = x.2.2.rc.seq := by omega
          exact ⟨(KeepsOthers.setCell _ _ _).from _, (Below.refl _ W).setCell (p := ⟨w1.heap.size, 0, none⟩) (Nat.le_refl _) _, by rw [hst.out, hm]; exact bS1.set _, hB1.setCell (p := ⟨w1.heap.size, 0, none⟩) (Nat.le_refl _) _⟩
        · have hm : max (bigOf pre) x.2.2.rc.seq = bigOf pre := by omega
          exact ⟨(KeepsOthers.setCell _ _ _).from _, (Below.refl _ W).setCell (p := ⟨w1.heap.size, 0, none⟩) (Nat.le_refl _) _, by rw [hst.out, hm]; exact bS1.set _, hB1.setCell (p := ⟨w1.heap.size, 0, none⟩) (Nat.le_refl _) _⟩
      · have hst : Hid (bigOf (pre ++ [x]) = bigOf pre) := by rw [Hid, bigOf_snoc]; unfold bigStep; rw [if_neg h1]
        have h1' : (x.2.2.state == 1) = false := by simpa using h1
        gi_wp2
        exact ⟨KeepsFrom.refl _ _, Below.refl _ _, by rw [hst.out]; exact bS1, hB1⟩
    case done =>
      rintro D ys W hD rfl ⟨bS1, hB1⟩ hK
      have cS := bS1.cell
      have hr := hrg
      have e1 : IntKind.i64.wrap (bigOf (allFrom 0 f) + 1) = bigOf (allFrom 0 f) + 1 := IntWalk.i64_in _ (by omega)
      gi_wp2
      refine ⟨by simp, .inl ⟨_, _, rfl, run_takeDeferred hK, ?_⟩⟩
      exact ⟨_, results_tmp rfl _ _ _, by rw [hfin.out]; rfl, hb1.trans ((hB1.trans (belowK_b (w := w1) (Nat.le_refl _) W D _ _ (by omega) hK rfl rfl)).mono hb1.size)⟩
    case stop =>
      rintro D c pre W _ _ h _
      exact h.elim
  · have hok' : flashOk f = false := by simpa using hok
    have hfin : Hid (findNext f = 0) := by unfold Hid findNext; rw [if_neg hok]
    have hFc := Lib.hid (impl_FlashOk f A c w hF)
    rw [hok'] at hFc
    gi_wp2_with (first | (refine ⟨trivial, ?_⟩; gi_at_call 59; refine (callsIn_wide.2 hFc.out).mono ?_; rintro e w1 ⟨rfl, hb1⟩))
    exact ⟨_, results_tmp rfl _ _ _, by rw [hfin.out]; rfl, hb1⟩
end Go.Proofs.YtohkoogmbfaceaaGreat
namespace Go.Proofs.YtohkoogmbfaceaaGreat
set_option linter.unusedVariables false
set_option linter.unusedSimpArgs false
open Go.RowKit Go.Maps
set_option maxHeartbeats 400000
theorem clean_le (b : Bk) : clean b ≤ b.pages.length := List.countP_le_length
theorem spec_l11Dirty (f : List Bk) (a : Int) (A D : Option Addr) (c m d : Nat) (w : World) (hl : f.length < 1000000000000) (hp : ∀ b ∈ f, b.pages.length < 1000000000000) (hF : Fl w A f) :
    Calls Tryz.prog 50 #[.agg #[.slice A f.length c, .slice D m d], .int .i64 a] w fun e w' => e = .returned (.bool (dirty f a)) ∧ Below w.heap.size w w' := by
  have HP := Lib.hid hp
  clear hp
  go_enter Tryz.func50, Tryz.ntmps50
  go_wp2_with fail
  refine (spec_l3Last f a A c _ hl HP.out (hF.alloc _)).mono ?_
  rintro e w1 ⟨rfl, hb⟩
  have hB : Below w.heap.size w w1 := Below.trans (by (repeat (first | (with_reducible exact Below.refl _ _) | (with_reducible assumption) | (refine Below.setCell ?_ (by first | omega | exact hB.size | exact hb.size | (have h := hB.size; simp; omega) | (have h := hb.size; simp; omega) | (simp; omega) | simp) _) | (refine Below.alloc ?_ (by first | omega | exact hB.size | exact hb.size | (have h := hB.size; simp; omega) | (have h := hb.size; simp; omega) | (simp; omega) | simp) _) | (refine Below.drew ?_)))) (hb.mono (by simp))
  have hfin : Hid (dirty f a = (decide (0 < (last f a).seq) && decide ((last f a).kind = 1))) := rfl
  clear hb
  generalize last f a = x at *
  by_cases h1 : 0 < x.seq
  · by_cases h2 : x.kind = 1
    · have h3 : Hid (dirty f a = true) := by rw [Hid, hfin.out]; simp [h1, h2]
      go_wp2
      all_goals go_ret
      all_goals exact ⟨ret_bool (by first | exact h3.out.symm | (rw [h3.out]; simp [*])), by (repeat (first | (with_reducible exact Below.refl _ _) | (with_reducible assumption) | (refine Below.setCell ?_ (by first | omega | exact hB.size | exact hb.size | (have h := hB.size; simp; omega) | (have h := hb.size; simp; omega) | (simp; omega) | simp) _) | (refine Below.alloc ?_ (by first | omega | exact hB.size | exact hb.size | (have h := hB.size; simp; omega) | (have h := hb.size; simp; omega) | (simp; omega) | simp) _) | (refine Below.drew ?_)))⟩
    · have h3 : Hid (dirty f a = false) := by rw [Hid, hfin.out]; simp [h1, h2]
      go_wp2
      all_goals go_ret
      all_goals exact ⟨ret_bool (by first | exact h3.out.symm | (rw [h3.out]; simp [*])), by (repeat (first | (with_reducible exact Below.refl _ _) | (with_reducible assumption) | (refine Below.setCell ?_ (by first | omega | exact hB.size | exact hb.size | (have h := hB.size; simp; omega) | (have h := hb.size; simp; omega) | (simp; omega) | simp) _) | (refine Below.alloc ?_ (by first | omega | exact hB.size | exact hb.size | (have h := hB.size; simp; omega) | (have h := hb.size; simp; omega) | (simp; omega) | simp) _) | (refine Below.drew ?_)))⟩
  · have h3 : Hid (dirty f a = false) := by rw [Hid, hfin.out]; simp [h1]
    go_wp2
    all_goals go_ret
    all_goals exact ⟨ret_bool (by first | exact h3.out.symm | (rw [h3.out]; simp [*])), by (repeat (first | (with_reducible exact Below.refl _ _) | (with_reducible assumption) | (refine Below.setCell ?_ (by first | omega | exact hB.size | exact hb.size | (have h := hB.size; simp; omega) | (have h := hb.size; simp; omega) | (simp; omega) | simp) _) | (refine Below.alloc ?_ (by first | omega | exact hB.size | exact hb.size | (have h := hB.size; simp; omega) | (have h := hb.size; simp; omega) | (simp; omega) | simp) _) | (refine Below.drew ?_)))⟩
theorem spec_l11Read (s : St) (a : Int) (A D : Option Addr) (c d : Nat) (w : World) (hl : s.flash.length < 1000000000000) (hp : ∀ b ∈ s.flash, b.pages.length < 1000000000000) (hd : s.disk.length = 6) (ha : 1 ≤ a) (ha2 : a ≤ 6) (hF : Fl w A s.flash) (hD : Row w D (ints s.disk)) :
    Calls Tryz.prog 51 #[.agg #[.slice A s.flash.length c, .slice D 6 d], .int .i64 a] w fun e w' => e = .returned (.int .i64 (readV s a)) ∧ Below w.heap.size w w' := by
  have HP := Lib.hid hp
  obtain ⟨i, rfl⟩ : ∃ i : Nat, a = i + 1 := ⟨(a - 1).toNat, by omega⟩
  have hi : i < 6 := by omega
  obtain ⟨v, hv⟩ := get_some (l := s.disk) (k := i) (by omega)
  have hgd : s.disk.getD i 0 = v := by rw [List.getD_eq_getElem?_getD, hv]; rfl
  have hne : s.disk ≠ [] := by rintro h; rw [h] at hd; simp at hd
  have hfin : Hid (readV s (i + 1) = if 0 < (last s.flash (i + 1)).seq then (last s.flash (i + 1)).val else v) := by unfold Hid readV; rw [show ((i : Int) + 1 - 1).toNat = i by omega, hgd]
  have HV := Lib.hid hv
  have hn1 : ints s.disk ≠ [] := by
    intro e; apply hne
    have := congrArg List.length e
    rw [ints_len] at this
    exact List.length_eq_zero_iff.1 this
  obtain ⟨db, dO, rfl⟩ := hD.addr hn1
  have hi6 : (i : Int) < 6 := by omega
  clear hp hv hgd hne hn1 hd
  go_enter Tryz.func51, Tryz.ntmps51
  go_wp2_with fail
  refine (spec_l3Last s.flash (i + 1) A c _ hl HP.out (hF.alloc _)).mono ?_
  rintro e w1 ⟨rfl, hb⟩
  have hB : Below w.heap.size w w1 := Below.trans (by (repeat (first | (with_reducible exact Below.refl _ _) | (with_reducible assumption) | (refine Below.setCell ?_ (by first | omega | exact hB.size | exact hb.size | (have h := hB.size; simp; omega) | (have h := hb.size; simp; omega) | (simp; omega) | simp) _) | (refine Below.alloc ?_ (by first | omega | exact hB.size | exact hb.size | (have h := hB.size; simp; omega) | (have h := hb.size; simp; omega) | (simp; omega) | simp) _) | (refine Below.drew ?_)))) (hb.mono (by simp))
  obtain ⟨hc, hf⟩ := bcell hb
  have hz : w.heap.size < w1.heap.size := by have := hb.size; simp at this; omega
  have hcv := ((hD.alloc (.cells #[.slice A s.flash.length c, .slice (some ⟨db, dO, none⟩) 6 d] 27)).below hb (Nat.le_refl _)).int_ HV.out
  obtain ⟨hcv, _⟩ := hcv
  have hdb := lt_of_cell hcv
  clear hb
  generalize last s.flash (i + 1) = x at *
  by_cases h1 : 0 < x.seq
  · have h3 : Hid (readV s (i + 1) = x.val) := by rw [Hid, hfin.out]; simp [h1]
    go_wp2
    all_goals go_ret
    all_goals exact ⟨ret_int h3.out.symm, by (repeat (first | (with_reducible exact Below.refl _ _) | (with_reducible assumption) | (refine Below.setCell ?_ (by first | omega | exact hB.size | exact hb.size | (have h := hB.size; simp; omega) | (have h := hb.size; simp; omega) | (simp; omega) | simp) _) | (refine Below.alloc ?_ (by first | omega | exact hB.size | exact hb.size | (have h := hB.size; simp; omega) | (have h := hb.size; simp; omega) | (simp; omega) | simp) _) | (refine Below.drew ?_)))⟩
  · have h3 : Hid (readV s (i + 1) = v) := by rw [Hid, hfin.out]; simp [h1]
    have e1 : IntKind.i64.wrap ((i : Int) + 1 - 1) = i := by rw [show (i : Int) + 1 - 1 = i by omega]; exact IntWalk.i64_in _ (by omega)
    go_wp2
    all_goals go_ret
    all_goals exact ⟨ret_int h3.out.symm, by (repeat (first | (with_reducible exact Below.refl _ _) | (with_reducible assumption) | (refine Below.setCell ?_ (by first | omega | exact hB.size | exact hb.size | (have h := hB.size; simp; omega) | (have h := hb.size; simp; omega) | (simp; omega) | simp) _) | (refine Below.alloc ?_ (by first | omega | exact hB.size | exact hb.size | (have h := hB.size; simp; omega) | (have h := hb.size; simp; omega) | (simp; omega) | simp) _) | (refine Below.drew ?_)))⟩
set_option maxHeartbeats 2000000 in
theorem spec_l2Write' (f : List Bk) (i lo hi g o c : Nat) (r : Rc) (torn : Bool) (w : World) (hl : f.length = 4) (hp : ∀ b ∈ f, b.pages.length = 4) (hi4 : i < 4) (hs : List (Option Addr × Nat)) (hBk : Bks w (some ⟨g, o, none⟩) f hs) (hApt : Apt lo hi (some ⟨g, o, none⟩) hs) :
    Calls Tryz.prog 53 #[.slice (some ⟨g, o, none⟩) 4 c, .int .i64 i, .agg #[.int .i64 r.kind, .int .i64 r.seq, .int .i64 r.addr, .int .i64 r.val], .bool torn] w fun e w' =>
      e = .returned (.tuple #[.slice (some ⟨g, o, none⟩) 4 c, .bool (writeR f i r torn).2]) ∧ Bks w' (some ⟨g, o, none⟩) (writeR f i r torn).1 hs ∧ Agr (fblk (some ⟨g, o, none⟩) hs) w w' := by
  obtain ⟨B, hB⟩ := get_some (l := f) (k := i) (by omega)
  have hBm := hp B (List.mem_of_getElem? hB)
  have hBget : f.getD i zbk = B := by rw [List.getD_eq_getElem?_getD, hB]; rfl
  have hBk0 := hBk.alloc (.cells #[.int .i64 r.kind, .int .i64 r.seq, .int .i64 r.addr, .int .i64 r.val] 64)
  obtain ⟨⟨Ap, cp⟩, hx, z0, z1, z2, z3, hR, _⟩ := hBk0.at_ hB
  dsimp only at z0 hR
  have hcl : clean B ≤ 4 := by rw [← hBm]; exact clean_le B
  have hi4' : (i : Int) < 4 := by omega
  have hfin : Hid (writeR f i r torn = if clean B = 0 ∨ seqIn f r.seq = true then (f, false) else (f.set i { B with pages := B.pages.set (4 - clean B) (if torn then ⟨2, rc0⟩ else ⟨1, r⟩) }, true)) := by unfold Hid writeR; rw [hBget]
  have HP := Lib.hid (show ∀ b ∈ f, b.pages.length < 1000000000000 from fun b hb => by rw [hp b hb]; omega)
  have hpl : B.pages.length < 1000000000000 := by omega
  have HB := Lib.hid hB
  have HBM := Lib.hid hBm
  have HX := Lib.hid hx
  have HL := Lib.hid hl
  have hl4 : f.length < 1000000000000 := by omega
  clear hl hp hBget hBm hB hx
  go_enter Tryz.func53, Tryz.ntmps53
  go_wp2_with fail
  refine (spec_l2Clean B Ap cp _ hpl hR).mono ?_
  rintro e w1 ⟨rfl, hb⟩
  have hB1 : Below w.heap.size w w1 := Below.trans (by (repeat (first | (with_reducible exact Below.refl _ _) | (with_reducible assumption) | (refine Below.setCell ?_ (by first | omega | exact hB.size | exact hb.size | (have h := hB.size; simp; omega) | (have h := hb.size; simp; omega) | (simp; omega) | simp) _) | (refine Below.alloc ?_ (by first | omega | exact hB.size | exact hb.size | (have h := hB.size; simp; omega) | (have h := hb.size; simp; omega) | (simp; omega) | simp) _) | (refine Below.drew ?_)))) (hb.mono (by simp))
  have hz : w.heap.size < w1.heap.size := by have := hb.size; simp at this; omega
  obtain ⟨hc, hf⟩ := bcell hb
  have hBk1 := hBk0.below hb (Nat.le_refl _)
  clear hb z0 z1 z2 z3 hR
  generalize clean B = n at *
  by_cases h0 : n = 0
  · subst h0
    have h3 : Hid (writeR f i r torn = (f, false)) := by rw [Hid, hfin.out, if_pos (.inl rfl)]
    go_wp2
    go_ret2
    rw [h3.out]
    exact ⟨rfl, hBk1, Agr.of_below hB1⟩
  · have hn0 : ((n : Int) == 0) = false := by rw [beq_eq_false_iff_ne]; omega
    go_wp2_with fail
    rw [← HL.out]
    refine (spec_l2Seq f r.seq _ c _ hl4 HP.out ⟨hs, hBk1⟩).mono ?_
    rintro e w2 ⟨rfl, rfl⟩
    rw [HL.out]
    by_cases hsq : seqIn f r.seq = true
    · have h3 : Hid (writeR f i r torn = (f, false)) := by rw [Hid, hfin.out, if_pos (.inr hsq)]
      rw [hsq]
      go_wp2
      go_ret2
      rw [h3.out]
      exact ⟨rfl, hBk1, Agr.of_below hB1⟩
    · have h3 : Hid (writeR f i r torn = (f.set i { B with pages := B.pages.set (4 - n) (if torn then ⟨2, rc0⟩ else ⟨1, r⟩) }, true)) := by
        rw [Hid, hfin.out, if_neg (by intro h; rcases h with h | h; exact h0 h; exact hsq h)]
      rw [show seqIn f r.seq = false by simpa using hsq]
      obtain ⟨j, hj⟩ : ∃ j, j + n = 4 := ⟨4 - n, by omega⟩
      have hj4 : 4 - n = j := by omega
      have e1 : IntKind.i64.wrap ((4 : Int) - n) = (j : Int) := by rw [show (4 : Int) - n = j by omega]; exact IntWalk.i64_in _ (by omega)
      have e2 : (4 : Int) - n = (j : Int) := by omega
      rw [hj4] at h3
      clear hj4 hfin hsq
      obtain ⟨x, hx2, y0, y1, _, _, hR1, _⟩ := hBk1.at_ HB.out
      rw [HX.out] at hx2
      cases hx2
      dsimp only at y0 hR1
      rw [HBM.out] at y0
      obtain ⟨p, hq⟩ := get_some (l := B.pages) (k := j) (by rw [HBM.out]; omega)
      obtain ⟨pb, po, rfl⟩ := hR1.addr (pgs_ne (by intro e; rw [e] at hq; simp at hq))
      obtain ⟨c0, c1, c2, c3, c4⟩ := hR1.pg hq
      obtain ⟨f0, f1, f2, f3, f4⟩ := hR1.pgf hq
      have hj1 : (j : Int) < 4 := by omega
      have hpin := hApt.in_ i _ pb HX.out (by rw [blk_some])
      have HQ := Lib.hid hq
      have hpb := lt_of_cell c0
      have hgl := lt_of_cell y0
      clear hq
      cases torn
      · have hWp := wrote_page hR1 HQ.out ⟨1, r⟩
        have hBk2 := hBk1.setPage hApt HB.out HX.out (by rw [HBM.out]; omega) hWp
        have hA2 := (Agr.of_below hB1 (S := fblk (some ⟨g, o, none⟩) hs)).trans hWp.agr (fun b _ e => .inr ⟨i, _, HX.out, by rw [e, blk_some]⟩)
        clear hWp hBk1
        go_wp2
        go_region
        go_wp2
        go_ret2
        rw [h3.out]
        exact ⟨rfl, (hBk2.alloc _).drew, (hA2.alloc _).drew⟩
      · have hWp := wrote_page hR1 HQ.out ⟨2, rc0⟩
        have hBk2 := hBk1.setPage hApt HB.out HX.out (by rw [HBM.out]; omega) hWp
        have hA2 := (Agr.of_below hB1 (S := fblk (some ⟨g, o, none⟩) hs)).trans hWp.agr (fun b _ e => .inr ⟨i, _, HX.out, by rw [e, blk_some]⟩)
        simp only [rc0] at hBk2 hA2
        clear hWp hBk1
        go_wp2
        go_region
        go_wp2
        go_ret2
        rw [h3.out]
        exact ⟨rfl, (hBk2.alloc _).drew, (hA2.alloc _).drew⟩
end Go.Proofs.YtohkoogmbfaceaaGreat
namespace Go.Proofs.YtohkoogmbfaceaaGreat
set_option linter.unusedVariables false
set_option linter.unusedSimpArgs false
open Go.RowKit Go.Maps
set_option maxHeartbeats 400000
theorem Tryz.info3_step : (Tryz.prog.info? 66).map (fun i => (i.zero, i.size, i.bytes)) = some (some (.agg #[.int .i64 0, .int .i64 0, .int .i64 0, .int .i64 0, .int .i64 0, .int .i64 0, .int .i64 0, .int .i64 0]), 8, 64) := by kernel_rfl
theorem spec_l3Open' (n : Nat) (f : List Bk) (A : Option Addr) (c : Nat) (w : World) (hn : n = f.length) (hl : f.length < 1000000000000) (hp : ∀ b ∈ f, b.pages.length < 1000000000000) (hF : Fl w A f) :
    Calls Tryz.prog 75 #[.slice A n c] w fun e w' => e = .returned (.tuple #[.int .i64 (openB f).1, .bool (openB f).2]) ∧ 0 ≤ (openB f).1 ∧ (f ≠ [] → (openB f).1 < f.length) ∧ Below w.heap.size w w' := by subst hn; exact spec_l3Open f A c w hl hp hF
theorem spec_l3Old' (n : Nat) (f : List Bk) (A : Option Addr) (c : Nat) (w : World) (hn : n = f.length) (hl : f.length < 1000000000000) (h0 : 0 < f.length) (hp : ∀ b ∈ f, b.pages.length < 1000000000000) (hF : Fl w A f) :
    Calls Tryz.prog 76 #[.slice A n c] w fun e w' => e = .returned (.int .i64 (old f)) ∧ old f < f.length ∧ Below w.heap.size w w' := by subst hn; exact spec_l3Old f A c w hl h0 hp hF
theorem spec_l3Next' (n : Nat) (f : List Bk) (A : Option Addr) (c : Nat) (w : World) (hn : n = f.length) (hl : f.length < 1000000000000) (hp : ∀ b ∈ f, b.pages.length < 1000000000000) (hm : ∀ b ∈ f, most b < 1000000000000) (hF : Fl w A f) :
    Calls Tryz.prog 54 #[.slice A n c] w fun e w' => e = .returned (.int .i64 (next f)) ∧ Below w.heap.size w w' := by subst hn; exact spec_l3Next f A c w hl hp hm hF
theorem spec_l3Live' (n : Nat) (f : List Bk) (p : Pg) (A : Option Addr) (c : Nat) (w : World) (hn : n = f.length) (hl : f.length < 1000000000000) (hp : ∀ b ∈ f, b.pages.length < 1000000000000) (hF : Fl w A f) :
    Calls Tryz.prog 77 #[.slice A n c, .agg #[.int .i64 p.state, .int .i64 p.rc.kind, .int .i64 p.rc.seq, .int .i64 p.rc.addr, .int .i64 p.rc.val]] w fun e w' => e = .returned (.bool (live f p)) ∧ Below w.heap.size w w' := by subst hn; exact spec_l3Live f p A c w hl hp hF
theorem spec_l3Last' (n : Nat) (f : List Bk) (addr : Int) (A : Option Addr) (c : Nat) (w : World) (hn : n = f.length) (hl : f.length < 1000000000000) (hp : ∀ b ∈ f, b.pages.length < 1000000000000) (hF : Fl w A f) :
    Calls Tryz.prog 57 #[.slice A n c, .int .i64 addr] w fun e w' => e = .returned (.tuple #[.agg #[.int .i64 (last f addr).kind, .int .i64 (last f addr).seq, .int .i64 (last f addr).addr, .int .i64 (last f addr).val], .bool (decide (0 < (last f addr).seq))]) ∧ Below w.heap.size w w' := by subst hn; exact spec_l3Last f addr A c w hl hp hF
theorem spec_l11Dirty' (n : Nat) (f : List Bk) (a : Int) (A D : Option Addr) (c m d : Nat) (w : World) (hn : n = f.length) (hl : f.length < 1000000000000) (hp : ∀ b ∈ f, b.pages.length < 1000000000000) (hF : Fl w A f) :
    Calls Tryz.prog 50 #[.agg #[.slice A n c, .slice D m d], .int .i64 a] w fun e w' => e = .returned (.bool (dirty f a)) ∧ Below w.heap.size w w' := by subst hn; exact spec_l11Dirty f a A D c m d w hl hp hF
theorem spec_l11Read' (n : Nat) (s : St) (a : Int) (A D : Option Addr) (c d : Nat) (w : World) (hn : n = s.flash.length) (hl : s.flash.length < 1000000000000) (hp : ∀ b ∈ s.flash, b.pages.length < 1000000000000) (hd : s.disk.length = 6) (ha : 1 ≤ a) (ha2 : a ≤ 6) (hF : Fl w A s.flash) (hD : Row w D (ints s.disk)) :
    Calls Tryz.prog 51 #[.agg #[.slice A n c, .slice D 6 d], .int .i64 a] w fun e w' => e = .returned (.int .i64 (readV s a)) ∧ Below w.heap.size w w' := by subst hn; exact spec_l11Read s a A D c d w hl hp hd ha ha2 hF hD
/-- a row of steps of one's own, in a block from base on -/
def OwnS (w : World) (base : Nat) (v : Value) (xs : List Sp) : Prop := w.ownsRow base 66 8 v xs.length (sps xs)
theorem ownsRow_keep {w w' : World} {base : Nat} {e : TypeId} {size n : Nat} {v : Value} {xs : List Value} (h : w.ownsRow base e size v n xs) (hk : ∀ b, v.ownBlock = some b → b < w.heap.size → w'.heap[b]? = w.heap[b]?) : w'.ownsRow base e size v n xs := by
  refine ⟨h.1, ?_⟩
  rcases h.2 with hn | ⟨g, cap, cur, hv, hb, hg, rest⟩
  · exact .inl hn
  · have hl : g < w.heap.size := by
      rcases Nat.lt_or_ge g w.heap.size with hl | hl
      · exact hl
      · rw [Array.getElem?_eq_none hl] at hg; cases hg
    exact .inr ⟨g, cap, cur, hv, hb, by rw [hk g (by rw [hv]; rfl) hl]; exact hg, rest⟩
theorem OwnS.below {w w' : World} {base B : Nat} {v : Value} {xs : List Sp} (h : OwnS w base v xs) (hb : Below B w w') (hB : w.heap.size ≤ B) : OwnS w' base v xs := ownsRow_keep h fun b _ hl => hb.block b (by omega)
theorem OwnS.agr {w w' : World} {base : Nat} {v : Value} {xs : List Sp} {S : Nat → Prop} (h : OwnS w base v xs) (hb : Agr S w w') (hS : ∀ b, base ≤ b → ¬ S b) : OwnS w' base v xs := by
  refine ownsRow_keep h fun b hbl hl => hb.block b hl (hS b ?_)
  exact (World.ownsRow.lt h b hbl).1
theorem OwnS.mono {w : World} {base base' : Nat} {v : Value} {xs : List Sp} (h : OwnS w base v xs) (hb : base' ≤ base) : OwnS w base' v xs := World.ownsRow.mono h hb
theorem OwnS.nil (w : World) (base : Nat) (hb : base ≤ w.heap.size) : OwnS (w.alloc (.cells #[] 66)) base (.slice (some ⟨w.heap.size, 0, none⟩) 0 0) [] := World.ownsRow_lit w #[] 0 hb (by unfold maxLen; omega) rfl
theorem OwnS.shape {w : World} {base : Nat} {v : Value} {xs : List Sp} (h : OwnS w base v xs) : ∃ A c, v = .slice A xs.length c ∧ xs.length ≤ c ∧ Row w A (sps xs) ∧ ∀ b, blk A b → base ≤ b ∧ b < w.heap.size := by
  rcases h.2 with ⟨hv, hn⟩ | ⟨g, cap, cur, hv, hb, hg, hc, rest⟩
  · exact ⟨none, 0, by rw [hv, hn], by omega, by have : xs = [] := List.length_eq_zero_iff.1 hn; subst this; exact Row.nil _ _, fun b hb => by simp [blk] at hb⟩
  · refine ⟨some ⟨g, 0, none⟩, cap, hv, hc, Row.of_own (by rw [← hv]; exact h), fun b hbb => ?_⟩
    rw [blk_some] at hbb
    subst hbb
    exact ⟨hb, (World.ownsRow.lt h g (by rw [hv]; rfl)).2⟩
theorem OwnS.snoc {w : World} {base g n c : Nat} {xs : List Sp} {x : Sp} (hn : n = xs.length + 1) (h : w.ownsRow base 66 8 (.slice (some ⟨g, 0, none⟩) (xs.length + 1) c) (xs.length + 1) (sps xs ++ x.vs)) : OwnS w base (.slice (some ⟨g, 0, none⟩) n c) (xs ++ [x]) := by
  subst hn
  unfold OwnS
  rw [List.length_append, sps, List.flatMap_append, show [x].flatMap Sp.vs = x.vs by simp]
  exact h
theorem tells_snoc (f : List Bk) (xs : List Sp) (p : Pg) (r : List Pg) : xs ++ tells f (p :: r) = (if told f p then xs ++ [tellP p] else xs) ++ tells f r := by
  unfold tells
  rw [List.filter_cons]
  split
  · simp
  · rfl
theorem old_lt {f : List Bk} : ∀ (r : List Bk) (i out : Nat), i + r.length = f.length → out < f.length → oldGo f i out r < f.length
  | [], _, _, _, h => h
  | b :: r, i, out, hi, h => by
    rw [List.length_cons] at hi
    unfold oldGo
    split
    · exact old_lt r _ _ (by omega) (by omega)
    · exact old_lt r _ _ (by omega) h
set_option maxHeartbeats 4000000 in
set_option maxRecDepth 100000 in
theorem spec_l12Room (f : List Bk) (A D : Option Addr) (c m d : Nat) (w : World) (hf : f.length = 4) (hp : ∀ b ∈ f, b.pages.length = 4) (hF : Fl w A f) :
    Calls Tryz.prog 55 #[.agg #[.slice A 4 c, .slice D m d]] w fun e w' => ∃ v, e = .returned (.tuple #[v, .int .i64 (room f).2.1, .bool (room f).2.2]) ∧ OwnS w' w.heap.size v (room f).1 ∧ Below w.heap.size w w' := by
  obtain ⟨ib, hib, hbz0, hbz1, hbz2⟩ := info_parts Tryz.info3_step
  have HL := Lib.hid hf
  have HP4 := Lib.hid hp
  have hl4 : f.length < 1000000000000 := by omega
  have h04 : 0 < f.length := by omega
  have HP := Lib.hid (show ∀ b ∈ f, b.pages.length < 1000000000000 from fun b hb => by rw [hp b hb]; omega)
  clear hf hp
  go_enter Tryz.func55, Tryz.ntmps55
  go_wp2_with fail
  refine (spec_l3Open' _ f A c _ HL.out.symm hl4 HP.out ((hF.alloc _).alloc _)).mono ?_
  rintro e w1 ⟨rfl, ho0, ho1, hb⟩
  have hB : Below w.heap.size w w1 := Below.trans (by (repeat (first | (with_reducible exact Below.refl _ _) | (with_reducible assumption) | (refine Below.setCell ?_ (by first | omega | exact hB.size | exact hb.size | (have h := hB.size; simp; omega) | (have h := hb.size; simp; omega) | (simp; omega) | simp) _) | (refine Below.alloc ?_ (by first | omega | exact hB.size | exact hb.size | (have h := hB.size; simp; omega) | (have h := hb.size; simp; omega) | (simp; omega) | simp) _) | (refine Below.drew ?_)))) (hb.mono (by simp; omega))
  have hz : w.heap.size + 1 < w1.heap.size := by have := hb.size; simp at this; omega
  obtain ⟨hc, hfz⟩ := bcell hb
  have hO1 : OwnS w1 (w.heap.size + 1) (.slice (some ⟨w.heap.size + 1, 0, none⟩) 0 0) [] := by
    have := (OwnS.nil (w.alloc (.cells #[.slice A 4 c, .slice D m d] 27)) (w.heap.size + 1) (by simp))
    simp only [World.size_alloc] at this
    exact this.below hb (by simp)
  have hb0 : w1.cell? ⟨w.heap.size, 0, none⟩ = some (.slice A 4 c) := (hc _ _ (by simp <;> omega)).trans (by simp)
  clear hb hc hfz
  by_cases h1 : (openB f).2 = true
  · have h3 : Hid (room f = ([], (openB f).1, true)) := by unfold Hid room; rw [if_pos h1]
    rw [h1]
    go_wp2
    go_ret3
    rw [h3.out]
    exact ⟨_, rfl, hO1.mono (by omega), by (repeat (first | (with_reducible exact Below.refl _ _) | (with_reducible assumption) | (refine Below.setCell ?_ (by first | omega | exact hB.size | exact hb.size | (have h := hB.size; simp; omega) | (have h := hb.size; simp; omega) | (simp; omega) | simp) _) | (refine Below.alloc ?_ (by first | omega | exact hB.size | exact hb.size | (have h := hB.size; simp; omega) | (have h := hb.size; simp; omega) | (simp; omega) | simp) _) | (refine Below.drew ?_)))⟩
  · have h3 : Hid (room f = (tells f (f.getD (old f) zbk).pages ++ [⟨2, 0, 0, old f, rc0⟩], (old f : Int), decide ((f.getD (old f) zbk).worn < 200))) := by unfold Hid room; rw [if_neg h1]
    rw [show (openB f).2 = false by simpa using h1]
    clear ho0 ho1
    go_wp2_with fail
    refine (spec_l3Old' _ f A c _ HL.out.symm hl4 h04 HP.out (hF.below hB (Nat.le_refl _))).mono ?_
    rintro e w2 ⟨rfl, hol, hb2⟩
    have hO2 := hO1.below hb2 (Nat.le_refl _)
    have hb0' := (hb2.cell (p := ⟨w.heap.size, 0, none⟩) (by simp; omega)).trans hb0
    have hz2 := hb2.size
    have hB2 := hB.trans (hb2.mono hB.size)
    clear hO1 hb0 hB hb2
    generalize old f = i at *
    obtain ⟨B, hBf⟩ := get_some hol
    rw [HL.out] at hol
    have hgd : f.getD i zbk = B := by rw [List.getD_eq_getElem?_getD, hBf]; rfl
    rw [hgd] at h3
    have hB4 := HP4.out B (List.mem_of_getElem? hBf)
    have HB := Lib.hid hBf
    have HB4 := Lib.hid hB4
    have hi4 : (i : Int) < 4 := by omega
    obtain ⟨g, o, rfl⟩ := (hF.below hB2 (Nat.le_refl _)).choose_spec.addr (by intro e; rw [e] at hBf; simp at hBf)
    have hT : Hid (tells f B.pages = [] ++ tells f (B.pages.drop 0)) := rfl
    clear hgd hBf hB4
    go_wp2
    go_loopw [5, 9] (fun u q wr => ∃ (k : Nat) (xs : List Sp) (v : Value), k ≤ 4 ∧ q = .int .i64 k ∧ v = u ∧ xs.length ≤ k ∧ OwnS wr (w.heap.size + 1) v xs ∧ Below w.heap.size w wr ∧ wr.cell? ⟨w.heap.size, 0, none⟩ = some (.slice (some ⟨g, o, none⟩) 4 c) ∧ w.heap.size + 1 < wr.heap.size ∧ Hid (tells f B.pages = xs ++ tells f (B.pages.drop k))) (fun _ q _ => 4 - (intOf q).toNat)
    case atStart => exact ⟨0, [], _, by omega, rfl, rfl, by simp, hO2, hB2, hb0', by omega, hT⟩
    case round =>
      clear hT hO2 hb0' hz2 hB2 hz
      obtain ⟨k, xs, v, hk, rfl, rfl, hxk, hO, hb, hbx, hz, hT⟩ := hrel
      obtain ⟨hs, hBk⟩ := hF.below hb (Nat.le_refl _)
      obtain ⟨⟨Ap, cp⟩, _, z0, z1, _, _, hR, _⟩ := hBk.at_ HB.out
      dsimp only at z0 hR
      rw [HB4.out] at z0
      by_cases hlt : k < 4
      · obtain ⟨p, hq⟩ := get_some (l := B.pages) (k := k) (by have := HB4.out; omega)
        obtain ⟨pb, po, rfl⟩ := hR.addr (pgs_ne (by intro e; rw [e] at hq; simp at hq))
        obtain ⟨c0, c1, c2, c3, c4⟩ := hR.pg hq
        have hT1 : Hid (tells f B.pages = (if told f p then xs ++ [tellP p] else xs) ++ tells f (B.pages.drop (k + 1))) := by rw [Hid, hT.out, drop_cons hq, tells_snoc]
        have hk4 : (k : Int) < 4 := by omega
        have hzz : w.heap.size < wr.heap.size := by omega
        clear hq hT hBk hR
        go_wp2_with fail
        refine (spec_l3Live' _ f p _ c _ HL.out.symm hl4 HP.out ((hF.below hb (Nat.le_refl _)).alloc _)).mono ?_
        rintro e w3 ⟨rfl, hb3⟩
        have hO3 := (hO.below ((Below.refl wr.heap.size _).alloc (Nat.le_refl _) (.cells #[.int .i64 p.state, .int .i64 p.rc.kind, .int .i64 p.rc.seq, .int .i64 p.rc.addr, .int .i64 p.rc.val] 71)) (Nat.le_refl _)).below hb3 (Nat.le_refl _)
        have hbx3 := (hb3.cell (p := ⟨w.heap.size, 0, none⟩) (by show w.heap.size < _; simp; omega)).trans ((((Below.refl wr.heap.size wr).alloc (Nat.le_refl _) (.cells #[.int .i64 p.state, .int .i64 p.rc.kind, .int .i64 p.rc.seq, .int .i64 p.rc.addr, .int .i64 p.rc.val] 71)).cell (p := ⟨w.heap.size, 0, none⟩) (by show w.heap.size < wr.heap.size; omega)).trans hbx)
        have hB3 : Below w.heap.size w w3 := Below.trans (by (repeat (first | (with_reducible exact Below.refl _ _) | (with_reducible assumption) | (refine Below.setCell ?_ (by first | omega | exact hB.size | exact hb.size | (have h := hB.size; simp; omega) | (have h := hb.size; simp; omega) | (simp; omega) | simp) _) | (refine Below.alloc ?_ (by first | omega | exact hB.size | exact hb.size | (have h := hB.size; simp; omega) | (have h := hb.size; simp; omega) | (simp; omega) | simp) _) | (refine Below.drew ?_)))) (hb3.mono (by simp; omega))
        have hs3 : wr.heap.size + 1 ≤ w3.heap.size := by have := hb3.size; simpa using this
        obtain ⟨hc3, _⟩ := bcell hb3
        have p1 : w3.cell? ⟨wr.heap.size, 1, none⟩ = some (.int .i64 p.rc.kind) := (hc3 _ _ (by simp)).trans (by simp)
        have p3 : w3.cell? ⟨wr.heap.size, 3, none⟩ = some (.int .i64 p.rc.addr) := (hc3 _ _ (by simp)).trans (by simp)
        have p4 : w3.cell? ⟨wr.heap.size, 4, none⟩ = some (.int .i64 p.rc.val) := (hc3 _ _ (by simp)).trans (by simp)
        have htd : Hid (told f p = (live f p && decide (p.rc.kind = 1))) := rfl
        clear hb3 hc3 hO hbx hb c0 c1 c2 c3 c4 z0 z1
        generalize live f p = lv at *
        by_cases hd : lv = true ∧ p.rc.kind = 1
        · obtain ⟨rfl, hk1⟩ := hd
          have hT2 : Hid (tells f B.pages = (xs ++ [tellP p]) ++ tells f (B.pages.drop (k + 1))) := by rw [Hid, hT1.out, if_pos (by rw [htd.out]; simp [hk1])]
          rw [hk1] at p1
          clear hT1 htd
          have hO4 := hO3.below ((Below.refl w3.heap.size _).alloc (Nat.le_refl _) (.cells #[.int .i64 1, .int .i64 p.rc.addr, .int .i64 p.rc.val, .int .i64 0, .int .i64 0, .int .i64 0, .int .i64 0, .int .i64 0] 66)) (Nat.le_refl _)
          have hnb : v.ownBlock = none ∨ ∃ b, v.ownBlock = some b ∧ w.heap.size + 1 ≤ b ∧ b < w3.heap.size := by
            rcases h : v.ownBlock with _ | b
            · exact .inl rfl
            · have := World.ownsRow.lt hO3 b h; exact .inr ⟨b, rfl, this.1, this.2⟩
          go_wp2_with (at_builtin; refine wpList_append_lies _ rfl (.tmp 47) (.tmp 55) _ rfl (w.heap.size + 1) 66 ib _ 8 64 Tryz.underlying51 hib hbz0 hbz1 hbz2 rfl (by omega) v xs.length (sps xs) rfl hO4 ⟨w3.heap.size, 0, none⟩ 1 1 (tellP p).vs rfl rfl (World.news_of_block (cs := #[.int .i64 1, .int .i64 p.rc.addr, .int .i64 p.rc.val, .int .i64 0, .int .i64 0, .int .i64 0, .int .i64 0, .int .i64 0]) (t := 66) (fr := (0, 0)) (heap_alloc_new w3 _)) (by simp [Value.oneCell', tellP, Sp.vs, rc0]) (by omega) (by unfold maxLen; omega) (by omega) (by simp; omega) (w3.heap.size + 1) (by simp) ?_; intro g2 c2 w4 hown2 hgrow2 hat2 hlt2)
          have hgb : ∀ q, v.ownBlock = some q → w.heap.size + 1 ≤ q := fun q e => by
            rcases hnb with h | ⟨b, h, h1, _⟩
            · rw [h] at e; cases e
            · rw [h] at e; cases e; exact h1
          have hbb : Below (w.heap.size + 1) w3 w4 := ((Below.refl _ _).alloc (by omega) _).grown hgrow2 (by simp; omega) hgb
          have hB4 : Below w.heap.size w w4 := hB3.trans (hbb.mono (by omega))
          have hbx4 := (hbb.cell (p := ⟨w.heap.size, 0, none⟩) (by show w.heap.size < _; omega)).trans hbx3
          have hs4 := hbb.size
          have hOS := OwnS.snoc (x := tellP p) rfl hown2
          go_roundw
          case rel => exact ⟨k + 1, xs ++ [tellP p], _, by omega, by go_num, rfl, by simp; omega, hOS, hB4, hbx4, by omega, hT2⟩
          case measure => simp [intOf]; omega
        · have hT2 : Hid (tells f B.pages = xs ++ tells f (B.pages.drop (k + 1))) := by
            rw [Hid, hT1.out, if_neg (by
              rw [htd.out]
              intro h
              simp at h
              exact hd h)]
          clear hT1 htd
          rcases Bool.eq_false_or_eq_true lv with rfl | rfl
          · have hk1 : ¬ p.rc.kind = 1 := fun h => hd ⟨rfl, h⟩
            go_wp2
            go_roundw
            case rel => exact ⟨k + 1, xs, v, by omega, by go_num, rfl, by omega, hO3, hB3, hbx3, by omega, hT2⟩
            case measure => simp [intOf]; omega
          · go_wp2
            go_roundw
            case rel => exact ⟨k + 1, xs, v, by omega, by go_num, rfl, by omega, hO3, hB3, hbx3, by omega, hT2⟩
            case measure => simp [intOf]; omega
      · obtain rfl : k = 4 := by omega
        have hT2 : Hid (tells f B.pages = xs) := by
          rw [Hid, hT.out, List.drop_of_length_le (by rw [HB4.out]; exact Nat.le_refl _)]
          simp [tells]
        rw [hT2.out] at h3
        have hzz : w.heap.size < wr.heap.size := by omega
        have hnb : ∀ q, v.ownBlock = some q → w.heap.size + 1 ≤ q := fun q e => (World.ownsRow.lt hO q e).1
        have hgl := lt_of_cell z1
        have hs1 := hb.size
        have hgw : g < w.heap.size := by
          obtain ⟨hs', hBk'⟩ := hF
          obtain ⟨_, _, _, z1', _⟩ := hBk'.at_ HB.out
          exact lt_of_cell z1'
        clear hT hBk hR z0
        go_wp2
        go_region_held3 (fun w' => w'.cell? ⟨w.heap.size, 0, none⟩ = some (.slice (some ⟨g, o, none⟩) 4 c) ∧ w'.cell? ⟨g, o + i * 2 + 1, none⟩ = some (.int .i64 B.worn)) (first | go_keep | trivial)
          (first
            | (refine step_append_lies _ (by rfl) (.tmp 57) (.tmp 60) _ (by rfl) (w.heap.size + 1) 66 ib _ 8 64 Tryz.underlying51 hib hbz0 hbz1 hbz2 rfl (by omega) v xs.length (sps xs) (by rfl) (World.ownsRow.drew (World.ownsRow.alloc hO (.cells #[.int .i64 2, .int .i64 0, .int .i64 0, .int .i64 i, .int .i64 0, .int .i64 0, .int .i64 0, .int .i64 0] 66))) ⟨wr.heap.size, 0, none⟩ 1 1 (⟨2, 0, 0, i, rc0⟩ : Sp).vs (by rfl) (by rfl) (World.news_of_block (cs := #[.int .i64 2, .int .i64 0, .int .i64 0, .int .i64 i, .int .i64 0, .int .i64 0, .int .i64 0, .int .i64 0]) (t := 66) (fr := (0, 0)) (heap_alloc_new wr _)) (by simp [Value.oneCell', Sp.vs, rc0]) (by omega) (by unfold maxLen; omega) (by omega) (by simp; omega) (wr.heap.size + 1) (by simp) ?_; intro g2 c2 w4 hown2 hgrow2 hat2 hlt2; have hbb : Below (w.heap.size + 1) wr w4 := (((Below.refl _ _).alloc (by omega) _).drew).grown hgrow2 (by simp; omega) hnb; have y0 := (hbb.cell (p := ⟨w.heap.size, 0, none⟩) (by show w.heap.size < _; omega)).trans hbx; have y1 : w4.cell? ⟨g, o + i * 2 + 1, none⟩ = some (.int .i64 B.worn) := (hbb.cell (p := ⟨g, o + i * 2 + 1, none⟩) (by show g < _; omega)).trans z1))
        have hOS := OwnS.snoc (x := ⟨2, 0, 0, i, rc0⟩) rfl hown2
        go_wp2
        go_ret3
        rw [h3.out]
        exact ⟨_, rfl, hOS.mono (by omega), hb.trans (hbb.mono (by omega))⟩
theorem tells_len (f : List Bk) (ps : List Pg) : (tells f ps).length ≤ ps.length := by
  unfold tells; rw [List.length_map]; exact List.length_filter_le _ _
theorem room_len {f : List Bk} (hf : f.length = 4) (hp : ∀ b ∈ f, b.pages.length = 4) : (room f).1.length ≤ 5 := by
  unfold room
  split
  · simp
  · have h1 := tells_len f (f.getD (old f) zbk).pages
    have hlt : old f < f.length := old_lt _ _ _ (by simp; omega) (by omega)
    have h2 : (f.getD (old f) zbk).pages.length = 4 := by
      rw [List.getD_eq_getElem?_getD, List.getElem?_eq_getElem hlt]
      exact hp _ (List.getElem_mem hlt)
    rw [List.length_append]; simp only [List.length_cons, List.length_nil]; omega
end Go.Proofs.YtohkoogmbfaceaaGreat
namespace Go.Proofs.YtohkoogmbfaceaaGreat
set_option linter.unusedVariables false
set_option linter.unusedSimpArgs false
open Go.RowKit Go.Maps
set_option maxHeartbeats 400000
set_option maxHeartbeats 4000000 in
set_option maxRecDepth 100000 in
theorem spec_l12Write (f : List Bk) (kind addr val : Int) (A D : Option Addr) (c m d : Nat) (w : World) (hf : f.length = 4) (hp : ∀ b ∈ f, b.pages.length = 4) (hm : ∀ b ∈ f, most b < 1000000000000) (hF : Fl w A f) :
    Calls Tryz.prog 38 #[.agg #[.slice A 4 c, .slice D m d], .int .i64 kind, .int .i64 addr, .int .i64 val] w fun e w' => ∃ v, e = .returned v ∧ OwnS w' w.heap.size v (wr f kind addr val) ∧ Below w.heap.size w w' := by
  obtain ⟨ib, hib, hbz0, hbz1, hbz2⟩ := info_parts Tryz.info3_step
  have HL := Lib.hid hf
  have HP4 := Lib.hid hp
  have HM := Lib.hid hm
  have hl4 : f.length < 1000000000000 := by omega
  have HP := Lib.hid (show ∀ b ∈ f, b.pages.length < 1000000000000 from fun b hb => by rw [hp b hb]; omega)
  have hfin : Hid (wr f kind addr val = if (room f).2.2 = false ∨ recOk ⟨kind, next f, addr, val⟩ = false then [] else (room f).1 ++ [⟨3, 0, 0, (room f).2.1, ⟨kind, next f, addr, val⟩⟩]) := rfl
  have hrl : (room f).1.length ≤ 5 := room_len hf hp
  clear hf hp hm
  go_enter Tryz.func38, Tryz.ntmps38
  go_wp2_with fail
  refine (spec_l3Next' _ f A c _ HL.out.symm hl4 HP.out HM.out (hF.alloc _)).mono ?_
  rintro e w1 ⟨rfl, hb⟩
  have hB : Below w.heap.size w w1 := Below.trans (by (repeat (first | (with_reducible exact Below.refl _ _) | (with_reducible assumption) | (refine Below.setCell ?_ (by first | omega | exact hB.size | exact hb.size | (have h := hB.size; simp; omega) | (have h := hb.size; simp; omega) | (simp; omega) | simp) _) | (refine Below.alloc ?_ (by first | omega | exact hB.size | exact hb.size | (have h := hB.size; simp; omega) | (have h := hb.size; simp; omega) | (simp; omega) | simp) _) | (refine Below.drew ?_)))) (hb.mono (by simp))
  have hz : w.heap.size < w1.heap.size := by have := hb.size; simp at this; omega
  obtain ⟨hc, hfz⟩ := bcell hb
  have x0 : w1.cell? ⟨w.heap.size, 0, none⟩ = some (.slice A 4 c) := (hc _ _ (by simp)).trans (by simp)
  have x1 : w1.cell? ⟨w.heap.size, 1, none⟩ = some (.slice D m d) := (hc _ _ (by simp)).trans (by simp)
  clear hb hc hfz
  generalize next f = nx at *
  go_wp2_with fail
  refine (spec_l12Room f A D c m d _ HL.out HP4.out ((hF.below hB (Nat.le_refl _)).alloc _)).mono ?_
  rintro e w2 ⟨v, rfl, hO, hb2⟩
  obtain ⟨hc, hfz⟩ := bcell hb2
  have r0 : w2.cell? ⟨w1.heap.size, 0, none⟩ = some (.int .i64 kind) := (hc _ _ (by simp)).trans (by simp)
  have r1 : w2.cell? ⟨w1.heap.size, 1, none⟩ = some (.int .i64 nx) := (hc _ _ (by simp)).trans (by simp)
  have r2 : w2.cell? ⟨w1.heap.size, 2, none⟩ = some (.int .i64 addr) := (hc _ _ (by simp)).trans (by simp)
  have r3 : w2.cell? ⟨w1.heap.size, 3, none⟩ = some (.int .i64 val) := (hc _ _ (by simp)).trans (by simp)
  have hB2 : Below w.heap.size w w2 := (hB.alloc hB.size _).trans (hb2.mono (by simp; omega))
  have hz2 : w1.heap.size + 1 ≤ w2.heap.size := by have := hb2.size; simpa using this
  replace hO := hO.mono (base' := w1.heap.size) (by simp)
  clear hb2 hc hfz x0 x1 hB
  generalize room f = rm at *
  obtain ⟨xs, bi, ok⟩ := rm
  dsimp only at *
  cases ok
  · have h3 : Hid (wr f kind addr val = []) := by rw [Hid, hfin.out, if_pos (.inl rfl)]
    go_wp2
    go_ret
    rw [h3.out]
    exact ⟨_, rfl, OwnS.nil _ _ (by omega), by (repeat (first | (with_reducible exact Below.refl _ _) | (with_reducible assumption) | (refine Below.setCell ?_ (by first | omega | exact hB.size | exact hb.size | (have h := hB.size; simp; omega) | (have h := hb.size; simp; omega) | (simp; omega) | simp) _) | (refine Below.alloc ?_ (by first | omega | exact hB.size | exact hb.size | (have h := hB.size; simp; omega) | (have h := hb.size; simp; omega) | (simp; omega) | simp) _) | (refine Below.drew ?_)))⟩
  · go_wp2_with fail
    refine (spec_RecOk ⟨kind, nx, addr, val⟩ _).mono ?_
    rintro e w3 ⟨rfl, hb3⟩
    obtain ⟨hc, hfz⟩ := bcell hb3
    replace r0 := (hc _ _ (lt_of_cell r0)).trans r0
    replace r1 := (hc _ _ (lt_of_cell r1)).trans r1
    replace r2 := (hc _ _ (lt_of_cell r2)).trans r2
    replace r3 := (hc _ _ (lt_of_cell r3)).trans r3
    have hB3 := hB2.trans (hb3.mono hB2.size)
    have hz3 := hb3.size
    have hO3 := hO.below hb3 (Nat.le_refl _)
    clear hO hc hfz hb3
    by_cases hok : recOk ⟨kind, nx, addr, val⟩ = true
    · have h3 : Hid (wr f kind addr val = xs ++ [⟨3, 0, 0, bi, ⟨kind, nx, addr, val⟩⟩]) := by
        rw [Hid, hfin.out, if_neg (by intro h; rcases h with h | h; cases h; rw [hok] at h; cases h)]
      rw [hok]
      have hO4 := hO3.below ((Below.refl w3.heap.size _).alloc (Nat.le_refl _) (.cells #[.int .i64 3, .int .i64 0, .int .i64 0, .int .i64 bi, .int .i64 kind, .int .i64 nx, .int .i64 addr, .int .i64 val] 66)) (Nat.le_refl _)
      have hnb : ∀ q, v.ownBlock = some q → w1.heap.size ≤ q := fun q e => (World.ownsRow.lt hO3 q e).1
      clear hfin
      go_wp2_with (at_builtin; refine wpList_append_lies _ rfl (.tmp 34) (.tmp 38) _ rfl w1.heap.size 66 ib _ 8 64 Tryz.underlying51 hib hbz0 hbz1 hbz2 rfl (by omega) v xs.length (sps xs) rfl hO4 ⟨w3.heap.size, 0, none⟩ 1 1 (⟨3, 0, 0, bi, ⟨kind, nx, addr, val⟩⟩ : Sp).vs rfl rfl (World.news_of_block (cs := #[.int .i64 3, .int .i64 0, .int .i64 0, .int .i64 bi, .int .i64 kind, .int .i64 nx, .int .i64 addr, .int .i64 val]) (t := 66) (fr := (0, 0)) (heap_alloc_new w3 _)) (by simp [Value.oneCell', Sp.vs]) (by omega) (by unfold maxLen; omega) (by omega) (by simp; omega) (w3.heap.size + 1) (by simp) ?_; intro g2 c2 w4 hown2 hgrow2 hat2 hlt2)
      have hbb : Below w1.heap.size w3 w4 := ((Below.refl _ _).alloc (by omega) _).grown hgrow2 (by simp; omega) hnb
      have hOS := OwnS.snoc (x := ⟨3, 0, 0, bi, ⟨kind, nx, addr, val⟩⟩) rfl hown2
      go_ret
      rw [h3.out]
      exact ⟨_, rfl, hOS.mono (by omega), hB3.trans (hbb.mono (by omega))⟩
    · have hok' : recOk ⟨kind, nx, addr, val⟩ = false := by simpa using hok
      have h3 : Hid (wr f kind addr val = []) := by rw [Hid, hfin.out, if_pos (.inr hok')]
      rw [hok']
      go_wp2
      go_ret
      rw [h3.out]
      exact ⟨_, rfl, OwnS.nil _ _ (by omega), by (repeat (first | (with_reducible exact Below.refl _ _) | (with_reducible assumption) | (refine Below.setCell ?_ (by first | omega | exact hB.size | exact hb.size | (have h := hB.size; simp; omega) | (have h := hb.size; simp; omega) | (simp; omega) | simp) _) | (refine Below.alloc ?_ (by first | omega | exact hB.size | exact hb.size | (have h := hB.size; simp; omega) | (have h := hb.size; simp; omega) | (simp; omega) | simp) _) | (refine Below.drew ?_)))⟩
end Go.Proofs.YtohkoogmbfaceaaGreat
namespace Go.Proofs.YtohkoogmbfaceaaGreat
set_option linter.unusedVariables false
set_option linter.unusedSimpArgs false
open Go.RowKit Go.Maps
set_option maxHeartbeats 400000
theorem Fl.drew' {w : World} {A : Option Addr} {f : List Bk} (h : Fl w A f) : Fl w.drew A f := by obtain ⟨hs, h⟩ := h; exact ⟨hs, h.drew⟩
theorem sps_one (xs : List Sp) : ∀ v ∈ sps xs, v.oneCell' = true := by
  intro v hv
  unfold sps at hv
  obtain ⟨x, _, hx⟩ := List.mem_flatMap.1 hv
  unfold Sp.vs at hx
  simp at hx
  rcases hx with h | h | h | h | h | h | h | h <;> (subst h; rfl)
theorem OwnS.onto {w : World} {base g n c : Nat} {xs ys : List Sp} (hn : n = xs.length + ys.length) (h : w.ownsRow base 66 8 (.slice (some ⟨g, 0, none⟩) n c) n (sps xs ++ sps ys)) : OwnS w base (.slice (some ⟨g, 0, none⟩) n c) (xs ++ ys) := by
  subst hn
  unfold OwnS
  rw [List.length_append, sps, List.flatMap_append]
  exact h
theorem wr_len {f : List Bk} (hf : f.length = 4) (hp : ∀ b ∈ f, b.pages.length = 4) (k a v : Int) : (wr f k a v).length ≤ 6 := by
  have := room_len hf hp
  unfold wr
  split
  · simp
  · rw [List.length_append]; simp only [List.length_cons, List.length_nil]; omega
set_option maxHeartbeats 4000000 in
set_option maxRecDepth 100000 in
theorem spec_l12Flush (s : St) (a : Int) (A D : Option Addr) (c d : Nat) (w : World) (hf : s.flash.length = 4) (hp : ∀ b ∈ s.flash, b.pages.length = 4) (hm : ∀ b ∈ s.flash, most b < 1000000000000) (hd : s.disk.length = 6) (hF : Fl w A s.flash) (hD : Row w D (ints s.disk)) :
    Calls Tryz.prog 35 #[.agg #[.slice A 4 c, .slice D 6 d], .int .i64 a] w fun e w' => ∃ v, e = .returned v ∧ OwnS w' w.heap.size v (flush s a) ∧ Below w.heap.size w w' := by
  obtain ⟨ib, hib, hbz0, hbz1, hbz2⟩ := info_parts Tryz.info3_step
  have HL := Lib.hid hf
  have HP4 := Lib.hid hp
  have HM := Lib.hid hm
  have HD := Lib.hid hd
  have hl4 : s.flash.length < 1000000000000 := by omega
  have HP := Lib.hid (show ∀ b ∈ s.flash, b.pages.length < 1000000000000 from fun b hb => by rw [hp b hb]; omega)
  have hwl := wr_len hf hp 2 a (readV s a)
  have hfin : Hid (flush s a = if addrB a = false ∨ dirty s.flash a = false then [] else if wr s.flash 2 a (readV s a) = [] then [] else ⟨1, a, readV s a, 0, rc0⟩ :: wr s.flash 2 a (readV s a)) := rfl
  have hin : Hid ((decide (1 ≤ a) && decide (a ≤ 6)) = addrB a) := rfl
  clear hf hp hm hd
  go_enter Tryz.func35, Tryz.ntmps35
  go_wp2_with fail
  refine (spec_l6In _ _ _ _).mono ?_
  rintro e w1 ⟨rfl, rfl⟩
  rw [hin.out]
  by_cases ha : addrB a = true
  · have ha1 : 1 ≤ a ∧ a ≤ 6 := by unfold addrB at ha; simpa using ha
    rw [ha]
    obtain ⟨ha1, ha2⟩ := ha1
    go_wp2_with fail
    refine (spec_l11Dirty' _ s.flash a A D c 6 d _ HL.out.symm hl4 HP.out (hF.alloc _)).mono ?_
    rintro e w1 ⟨rfl, hb⟩
    have hB : Below w.heap.size w w1 := Below.trans (by (repeat (first | (with_reducible exact Below.refl _ _) | (with_reducible assumption) | (refine Below.setCell ?_ (by first | omega | exact hB.size | exact hb.size | (have h := hB.size; simp; omega) | (have h := hb.size; simp; omega) | (simp; omega) | simp) _) | (refine Below.alloc ?_ (by first | omega | exact hB.size | exact hb.size | (have h := hB.size; simp; omega) | (have h := hb.size; simp; omega) | (simp; omega) | simp) _) | (refine Below.drew ?_)))) (hb.mono (by simp))
    have hz : w.heap.size < w1.heap.size := by have := hb.size; simp at this; omega
    obtain ⟨hc, hfz⟩ := bcell hb
    have x0 : w1.cell? ⟨w.heap.size, 0, none⟩ = some (.slice A 4 c) := (hc _ _ (by simp)).trans (by simp)
    have x1 : w1.cell? ⟨w.heap.size, 1, none⟩ = some (.slice D 6 d) := (hc _ _ (by simp)).trans (by simp)
    clear hb hc hfz
    by_cases hdy : dirty s.flash a = true
    · rw [hdy]
      go_wp2_with fail
      refine (spec_l11Read' _ s a A D c d _ HL.out.symm hl4 HP.out HD.out ha1 ha2 (hF.below hB (Nat.le_refl _)) (hD.below hB (Nat.le_refl _))).mono ?_
      rintro e w2 ⟨rfl, hb⟩
      have hB2 := hB.trans (hb.mono hB.size)
      have hz2 := hb.size
      replace x0 := (hb.cell (p := ⟨w.heap.size, 0, none⟩) hz).trans x0
      replace x1 := (hb.cell (p := ⟨w.heap.size, 1, none⟩) hz).trans x1
      clear hB hb
      generalize readV s a = val at *
      go_wp2_with fail
      refine (spec_l12Write s.flash 2 a val A D c 6 d _ HL.out HP4.out HM.out (hF.below hB2 (Nat.le_refl _))).mono ?_
      rintro e w3 ⟨v, rfl, hO, hb⟩
      have hB3 := hB2.trans (hb.mono hB2.size)
      have hz3 := hb.size
      have h3 : Hid (flush s a = if wr s.flash 2 a val = [] then [] else ⟨1, a, val, 0, rc0⟩ :: wr s.flash 2 a val) := by
        rw [Hid, hfin.out, if_neg (by rw [ha, hdy]; simp)]
      generalize wr s.flash 2 a val = xs at *
      obtain ⟨A2, c2, rfl, hcap, hRow, hblk⟩ := hO.shape
      clear hfin hb hB2 x0 x1
      by_cases hx : xs = []
      · subst hx
        have h4 : Hid (flush s a = []) := by rw [Hid, h3.out, if_pos rfl]
        go_wp2
        go_ret
        rw [h4.out]
        exact ⟨_, rfl, hO.mono (by omega), hB3⟩
      · have h4 : Hid (flush s a = [⟨1, a, val, 0, rc0⟩] ++ xs) := by rw [Hid, h3.out, if_neg hx]; rfl
        have hlen : 0 < xs.length := List.length_pos_iff.2 hx
        have hle : ((xs.length : Int) == 0) = false := by rw [beq_eq_false_iff_ne]; omega
        obtain ⟨g2, o2, rfl⟩ := hRow.addr (by intro e; have := sps_len xs; rw [e] at this; simp at this; omega)
        have hlit : OwnS (w3.alloc (.cells #[.int .i64 1, .int .i64 a, .int .i64 val, .int .i64 0, .int .i64 0, .int .i64 0, .int .i64 0, .int .i64 0] 66)) w.heap.size (.slice (some ⟨w3.heap.size, 0, none⟩) 1 1) [⟨1, a, val, 0, rc0⟩] := World.ownsRow_lit w3 #[.int .i64 1, .int .i64 a, .int .i64 val, .int .i64 0, .int .i64 0, .int .i64 0, .int .i64 0, .int .i64 0] 1 (by omega) (by unfold maxLen; omega) rfl
        clear h3
        go_wp2_with (at_builtin; refine wpList_append_lies _ rfl (.tmp 31) (.tmp 32) _ rfl w.heap.size 66 ib _ 8 64 Tryz.underlying51 hib hbz0 hbz1 hbz2 rfl (by omega) (.slice (some ⟨w3.heap.size, 0, none⟩) 1 1) 1 (sps [⟨1, a, val, 0, rc0⟩]) rfl hlit ⟨g2, o2, none⟩ xs.length c2 (sps xs) rfl (sps_len xs) ((hRow.alloc _).news) (sps_one xs) hlen (by unfold maxLen; omega) (by omega) (by simp; omega) (w3.heap.size + 1) (by simp) ?_; intro g3 c3 w4 hown2 hgrow2 hat2 hlt2)
        have hbb : Below w3.heap.size w3 w4 := ((Below.refl _ _).alloc (by omega) _).grown hgrow2 (by simp) (by intro q e; cases e; exact Nat.le_refl _)
        have hOS := OwnS.onto (xs := [⟨1, a, val, 0, rc0⟩]) rfl hown2
        go_ret
        rw [h4.out]
        exact ⟨_, rfl, hOS, hB3.trans (hbb.mono (by omega))⟩
    · have hdy' : dirty s.flash a = false := by simpa using hdy
      have h3 : Hid (flush s a = []) := by rw [Hid, hfin.out, if_pos (.inr hdy')]
      rw [hdy']
      go_wp2
      go_ret
      rw [h3.out]
      exact ⟨_, rfl, OwnS.nil _ _ (by omega), by (repeat (first | (with_reducible exact Below.refl _ _) | (with_reducible assumption) | (refine Below.setCell ?_ (by first | omega | exact hB.size | exact hb.size | (have h := hB.size; simp; omega) | (have h := hb.size; simp; omega) | (simp; omega) | simp) _) | (refine Below.alloc ?_ (by first | omega | exact hB.size | exact hb.size | (have h := hB.size; simp; omega) | (have h := hb.size; simp; omega) | (simp; omega) | simp) _) | (refine Below.drew ?_)))⟩
  · have ha' : addrB a = false := by simpa using ha
    have h3 : Hid (flush s a = []) := by rw [Hid, hfin.out, if_pos (.inl ha')]
    rw [ha']
    go_wp2
    go_ret
    rw [h3.out]
    refine ⟨_, rfl, ?_, by (repeat (first | (with_reducible exact Below.refl _ _) | (with_reducible assumption) | (refine Below.setCell ?_ (by first | omega | exact hB.size | exact hb.size | (have h := hB.size; simp; omega) | (have h := hb.size; simp; omega) | (simp; omega) | simp) _) | (refine Below.alloc ?_ (by first | omega | exact hB.size | exact hb.size | (have h := hB.size; simp; omega) | (have h := hb.size; simp; omega) | (simp; omega) | simp) _) | (refine Below.drew ?_)))⟩
    have := OwnS.nil (w.alloc (.cells #[.slice A 4 c, .slice D 6 d] 27)) w.heap.size (by simp)
    simp only [World.size_alloc] at this
    exact this
set_option maxHeartbeats 4000000 in
set_option maxRecDepth 100000 in
theorem spec_l12Fill (s : St) (a : Int) (A D : Option Addr) (c d : Nat) (w : World) (hf : s.flash.length = 4) (hp : ∀ b ∈ s.flash, b.pages.length = 4) (hm : ∀ b ∈ s.flash, most b < 1000000000000) (hd : s.disk.length = 6) (hF : Fl w A s.flash) (hD : Row w D (ints s.disk)) :
    Calls Tryz.prog 39 #[.agg #[.slice A 4 c, .slice D 6 d], .int .i64 a] w fun e w' => ∃ v, e = .returned v ∧ OwnS w' w.heap.size v (fill s a) ∧ Below w.heap.size w w' := by
  have HL := Lib.hid hf
  have HP4 := Lib.hid hp
  have HM := Lib.hid hm
  have hl4 : s.flash.length < 1000000000000 := by omega
  have HP := Lib.hid (show ∀ b ∈ s.flash, b.pages.length < 1000000000000 from fun b hb => by rw [hp b hb]; omega)
  have hin : Hid ((decide (1 ≤ a) && decide (a ≤ 6)) = addrB a) := rfl
  have hnil : OwnS ((w.alloc (.cells #[.slice A 4 c, .slice D 6 d] 27)).alloc (.cells #[] 66)) w.heap.size (.slice (some ⟨w.heap.size + 1, 0, none⟩) 0 0) [] := by
    have := OwnS.nil (w.alloc (.cells #[.slice A 4 c, .slice D 6 d] 27)) w.heap.size (by simp)
    simp only [World.size_alloc] at this
    exact this
  have hfin : Hid (fill s a = if addrB a = false ∨ 0 < (last s.flash a).seq then [] else wr s.flash 2 a (s.disk.getD (a - 1).toNat 0)) := rfl
  clear hf hp hm
  by_cases ha : addrB a = true
  · have ha1 : 1 ≤ a ∧ a ≤ 6 := by unfold addrB at ha; simpa using ha
    obtain ⟨ha1, ha2⟩ := ha1
    obtain ⟨i, rfl⟩ : ∃ i : Nat, a = i + 1 := ⟨(a - 1).toNat, by omega⟩
    have hi : i < 6 := by omega
    obtain ⟨v, hv⟩ := get_some (l := s.disk) (k := i) (by omega)
    have hgd : s.disk.getD ((i : Int) + 1 - 1).toNat 0 = v := by rw [show ((i : Int) + 1 - 1).toNat = i by omega, List.getD_eq_getElem?_getD, hv]; rfl
    rw [hgd] at hfin
    have hn1 : ints s.disk ≠ [] := by
      intro e
      have := congrArg List.length e
      rw [ints_len, hd] at this
      simp at this
    obtain ⟨db, dO, rfl⟩ := hD.addr hn1
    have hi6 : (i : Int) < 6 := by omega
    have HV := Lib.hid hv
    clear hv hgd hn1 hd hnil
    go_enter Tryz.func39, Tryz.ntmps39
    go_wp2_with fail
    refine (spec_l6In _ _ _ _).mono ?_
    rintro e w1 ⟨rfl, rfl⟩
    rw [hin.out, ha]
    go_wp2_with fail
    refine (spec_l3Last' _ s.flash (i + 1) A c _ HL.out.symm hl4 HP.out (hF.alloc _)).mono ?_
    rintro e w1 ⟨rfl, hb⟩
    have hB : Below w.heap.size w w1 := Below.trans (by (repeat (first | (with_reducible exact Below.refl _ _) | (with_reducible assumption) | (refine Below.setCell ?_ (by first | omega | exact hB.size | exact hb.size | (have h := hB.size; simp; omega) | (have h := hb.size; simp; omega) | (simp; omega) | simp) _) | (refine Below.alloc ?_ (by first | omega | exact hB.size | exact hb.size | (have h := hB.size; simp; omega) | (have h := hb.size; simp; omega) | (simp; omega) | simp) _) | (refine Below.drew ?_)))) (hb.mono (by simp))
    have hz : w.heap.size < w1.heap.size := by have := hb.size; simp at this; omega
    obtain ⟨hc, hfz⟩ := bcell hb
    have x0 : w1.cell? ⟨w.heap.size, 0, none⟩ = some (.slice A 4 c) := (hc _ _ (by simp)).trans (by simp)
    have x1 : w1.cell? ⟨w.heap.size, 1, none⟩ = some (.slice (some ⟨db, dO, none⟩) 6 d) := (hc _ _ (by simp)).trans (by simp)
    obtain ⟨hcv, _⟩ := (hD.below hB (Nat.le_refl _)).int_ HV.out
    have hdb := lt_of_cell hcv
    have hFz := hF.below hB (Nat.le_refl _)
    clear hb hc hfz
    generalize last s.flash (i + 1) = x at *
    by_cases h1 : 0 < x.seq
    · have h3 : Hid (fill s (i + 1) = []) := by rw [Hid, hfin.out, if_pos (.inr h1)]
      go_wp2
      go_ret
      rw [h3.out]
      refine ⟨_, rfl, ?_, by (repeat (first | (with_reducible exact Below.refl _ _) | (with_reducible assumption) | (refine Below.setCell ?_ (by first | omega | exact hB.size | exact hb.size | (have h := hB.size; simp; omega) | (have h := hb.size; simp; omega) | (simp; omega) | simp) _) | (refine Below.alloc ?_ (by first | omega | exact hB.size | exact hb.size | (have h := hB.size; simp; omega) | (have h := hb.size; simp; omega) | (simp; omega) | simp) _) | (refine Below.drew ?_)))⟩
      have := OwnS.nil (w1.alloc (.cells #[.int .i64 x.kind, .int .i64 x.seq, .int .i64 x.addr, .int .i64 x.val] 64)) w.heap.size (by simp; omega)
      simp only [World.size_alloc] at this
      exact this
    · have h3 : Hid (fill s (i + 1) = wr s.flash 2 (i + 1) v) := by
        rw [Hid, hfin.out, if_neg (by intro h; rcases h with h | h; rw [ha] at h; cases h; exact h1 h)]
      have e1 : IntKind.i64.wrap ((i : Int) + 1 - 1) = i := by rw [show (i : Int) + 1 - 1 = i by omega]; exact IntWalk.i64_in _ (by omega)
      have e2 : IntKind.i64.wrap (i : Int) = i := IntWalk.i64_in _ (by omega)
      have e3 : (i : Int) + 1 - 1 = i := by omega
      have e4 : (0 : Int) ≤ i := by omega
      clear hfin
      go_wp2
      go_region_with (first | (go_at_call 38; with_reducible refine (spec_l12Write s.flash 2 (i + 1) v A (some ⟨db, dO, none⟩) c 6 d _ HL.out HP4.out HM.out (Fl.drew' (hFz.alloc _))).mono ?_; rintro e w2 ⟨u, rfl, hO, hb2⟩))
      all_goals
        have hle : w.heap.size ≤ (w1.alloc (.cells #[.int .i64 x.kind, .int .i64 x.seq, .int .i64 x.addr, .int .i64 x.val] 64)).drew.heap.size := by show w.heap.size ≤ (w1.alloc _).heap.size; simp; omega
        have hB2 : Below w.heap.size w w2 := ((hB.alloc hB.size _).drew).trans (hb2.mono hle)
        clear hb2
        go_wp2
        go_ret
        rw [h3.out]
        exact ⟨_, rfl, hO.mono hle, hB2⟩
  · have ha' : addrB a = false := by simpa using ha
    have h3 : Hid (fill s a = []) := by rw [Hid, hfin.out, if_pos (.inl ha')]
    go_enter Tryz.func39, Tryz.ntmps39
    go_wp2_with fail
    refine (spec_l6In _ _ _ _).mono ?_
    rintro e w1 ⟨rfl, rfl⟩
    rw [hin.out, ha']
    go_wp2
    go_ret
    rw [h3.out]
    exact ⟨_, rfl, hnil, by (repeat (first | (with_reducible exact Below.refl _ _) | (with_reducible assumption) | (refine Below.setCell ?_ (by first | omega | exact hB.size | exact hb.size | (have h := hB.size; simp; omega) | (have h := hb.size; simp; omega) | (simp; omega) | simp) _) | (refine Below.alloc ?_ (by first | omega | exact hB.size | exact hb.size | (have h := hB.size; simp; omega) | (have h := hb.size; simp; omega) | (simp; omega) | simp) _) | (refine Below.drew ?_)))⟩
end Go.Proofs.YtohkoogmbfaceaaGreat
namespace Go.Proofs.YtohkoogmbfaceaaGreat
set_option linter.unusedVariables false
set_option linter.unusedSimpArgs false
open Go.RowKit Go.Maps
set_option maxHeartbeats 400000
/-- all blocks but one are alike -/
def others (f g : List Bk) (k : Int) : Prop := f.length = g.length ∧ ∀ j : Nat, (j : Int) ≠ k → f[j]? = g[j]?
end Go.Proofs.YtohkoogmbfaceaaGreat
namespace Go.Proofs.YtohkoogmbfaceaaGreat
set_option linter.unusedVariables false
set_option linter.unusedSimpArgs false
open Go.RowKit Go.Maps
set_option maxHeartbeats 400000
theorem laws_eqRec (r s : Rc) (w : World) : Calls Tryz.prog 96 #[.agg #[.int .i64 r.kind, .int .i64 r.seq, .int .i64 r.addr, .int .i64 r.val], .agg #[.int .i64 s.kind, .int .i64 s.seq, .int .i64 s.addr, .int .i64 s.val]] w fun e w' => e = .returned (.bool (decide (r = s))) ∧ Below w.heap.size w w' := by
  obtain ⟨k, q, a, v⟩ := r
  obtain ⟨k', q', a', v'⟩ := s
  dsimp only
  go_enter Tryz.func96, Tryz.ntmps96
  go_wp2
  all_goals (go_ret; exact ⟨ret_bool (by simp_all), ((Below.refl _ _).alloc (Nat.le_refl _) _).alloc (by simp) _⟩)
theorem laws_eqPage (p q : Pg) (w : World) : Calls Tryz.prog 71 #[.agg #[.int .i64 p.state, .int .i64 p.rc.kind, .int .i64 p.rc.seq, .int .i64 p.rc.addr, .int .i64 p.rc.val], .agg #[.int .i64 q.state, .int .i64 q.rc.kind, .int .i64 q.rc.seq, .int .i64 q.rc.addr, .int .i64 q.rc.val]] w
    fun e w' => e = .returned (.bool (decide (p = q))) ∧ Below w.heap.size w w' := by
  obtain ⟨st, r⟩ := p
  obtain ⟨st', s⟩ := q
  dsimp only
  by_cases hst : st = st'
  · subst hst
    have hq : Hid (decide ((⟨st, r⟩ : Pg) = ⟨st, s⟩) = decide (r = s)) := by unfold Hid; simp
    go_enter Tryz.func71, Tryz.ntmps71
    go_wp2_with (go_at_call 96; refine (laws_eqRec r s _).mono ?_; rintro e w1 ⟨rfl, hb⟩)
    all_goals (go_ret; exact ⟨ret_bool (by rw [hq.out]; simp_all), (((Below.refl _ _).alloc (Nat.le_refl _) _).alloc (by simp) _).trans (hb.mono (by simp; omega))⟩)
  · have hq : Hid (decide ((⟨st, r⟩ : Pg) = ⟨st', s⟩) = false) := by unfold Hid; simp [hst]
    go_enter Tryz.func71, Tryz.ntmps71
    go_wp2
    go_ret
    exact ⟨ret_bool hq.out.symm, ((Below.refl _ _).alloc (Nat.le_refl _) _).alloc (by simp) _⟩
theorem eq_drop {α : Type} [DecidableEq α] {l m : List α} {k : Nat} {x y : α} (hx : l[k]? = some x) (hy : m[k]? = some y) : decide (l.drop k = m.drop k) = (decide (x = y) && decide (l.drop (k + 1) = m.drop (k + 1))) := by
  rw [drop_cons hx, drop_cons hy, Bool.eq_iff_iff]
  simp
theorem laws_eqPageS (A A' : Option Addr) (c c' : Nat) (ps qs : List Pg) (w : World) (hl : ps.length < 1000000000000) (hl' : qs.length < 1000000000000) (hR : Row w A (pgs ps)) (hR' : Row w A' (pgs qs)) :
    Calls Tryz.prog 49 #[.slice A ps.length c, .slice A' qs.length c'] w fun e w' => e = .returned (.bool (decide (ps = qs))) ∧ Below w.heap.size w w' := by
  by_cases hn : ps.length = qs.length
  · have HN := Lib.hid hn
    rw [← hn]
    clear hn hl'
    go_enter Tryz.func49, Tryz.ntmps49
    go_wp2
    go_loopw [5] (fun i wr => ∃ (k : Nat), k ≤ ps.length ∧ i = .int .i64 k ∧ Below w.heap.size w wr ∧ Hid (decide (ps = qs) = decide (ps.drop k = qs.drop k))) (fun i _ => ps.length - (intOf i).toNat)
    case atStart => exact ⟨0, by omega, rfl, Below.refl _ _, by simp [Hid]⟩
    case round =>
      obtain ⟨k, hk, rfl, hb, hg⟩ := hrel
      by_cases hlt : k < ps.length
      · obtain ⟨p, hp⟩ := get_some hlt
        obtain ⟨q, hq⟩ := get_some (l := qs) (k := k) (by have := HN.out; omega)
        have hd := Lib.hid (eq_drop hp hq)
        obtain ⟨b, o, rfl⟩ := hR.addr (pgs_ne (by rintro rfl; simp at hlt))
        obtain ⟨b', o', rfl⟩ := hR'.addr (pgs_ne (by rintro rfl; simp at hq))
        have hRk := hR.below hb (Nat.le_refl _)
        have hRk' := hR'.below hb (Nat.le_refl _)
        obtain ⟨c0, c1, c2, c3, c4⟩ := hRk.pg hp
        obtain ⟨d0, d1, d2, d3, d4⟩ := hRk'.pg hq
        have hk1 : (k : Int) < ps.length := by omega
        have HP := Lib.hid hp
        have HQ := Lib.hid hq
        clear hp hq
        go_wp2
        go_region_held3 (fun w' => w'.cell? ⟨b, o + k * 5, none⟩ = some (.int .i64 p.state) ∧ w'.cell? ⟨b, o + k * 5 + 1, none⟩ = some (.int .i64 p.rc.kind) ∧ w'.cell? ⟨b, o + k * 5 + 2, none⟩ = some (.int .i64 p.rc.seq) ∧ w'.cell? ⟨b, o + k * 5 + 3, none⟩ = some (.int .i64 p.rc.addr) ∧ w'.cell? ⟨b, o + k * 5 + 4, none⟩ = some (.int .i64 p.rc.val) ∧
            w'.cell? ⟨b', o' + k * 5, none⟩ = some (.int .i64 q.state) ∧ w'.cell? ⟨b', o' + k * 5 + 1, none⟩ = some (.int .i64 q.rc.kind) ∧ w'.cell? ⟨b', o' + k * 5 + 2, none⟩ = some (.int .i64 q.rc.seq) ∧ w'.cell? ⟨b', o' + k * 5 + 3, none⟩ = some (.int .i64 q.rc.addr) ∧ w'.cell? ⟨b', o' + k * 5 + 4, none⟩ = some (.int .i64 q.rc.val))
          (first | go_keep | trivial)
          (first | (go_at_call 71; refine (laws_eqPage p q _).mono ?_; rintro e w1 ⟨rfl, hb1⟩; replace hb1 := undrew hb1; obtain ⟨e0, e1, e2, e3, e4⟩ := (hRk.below hb1 (Nat.le_refl _)).pg HP.out; obtain ⟨g0, g1, g2, g3, g4⟩ := (hRk'.below hb1 (Nat.le_refl _)).pg HQ.out))
        have hB1 := hb.trans (hb1.mono hb.size)
        go_wp2
        · have hne : (!decide (p = q)) = true := by assumption
          have hne' : decide (p = q) = false := by simpa using hne
          go_ret
          exact ⟨ret_bool (by rw [hg.out, hd.out, hne']; rfl), hB1⟩
        · have heq : (!decide (p = q)) = false := by assumption
          have heq' : decide (p = q) = true := by simpa using heq
          go_roundw
          case rel => exact ⟨k + 1, by omega, by go_num, hB1, by rw [Hid, hg.out, hd.out, heq', Bool.true_and]⟩
          case measure => simp [intOf]; omega
      · obtain rfl : k = ps.length := by omega
        go_wp2
        go_ret
        exact ⟨ret_bool (by rw [hg.out, List.drop_of_length_le (Nat.le_refl _), List.drop_of_length_le (by have := HN.out; omega)]; rfl), hb⟩
  · have hq : Hid (decide (ps = qs) = false) := by unfold Hid; simp; intro e; exact hn (by rw [e])
    go_enter Tryz.func49, Tryz.ntmps49
    go_wp2
    go_ret
    exact ⟨ret_bool hq.out.symm, Below.refl _ _⟩
theorem laws_eqBlock (a b : Bk) (A A' : Option Addr) (c c' : Nat) (w : World) (hl : a.pages.length < 1000000000000) (hl' : b.pages.length < 1000000000000) (hR : Row w A (pgs a.pages)) (hR' : Row w A' (pgs b.pages)) :
    Calls Tryz.prog 32 #[.agg #[.slice A a.pages.length c, .int .i64 a.worn], .agg #[.slice A' b.pages.length c', .int .i64 b.worn]] w fun e w' => e = .returned (.bool (decide (a = b))) ∧ Below w.heap.size w w' := by
  obtain ⟨ps, n⟩ := a
  obtain ⟨qs, m⟩ := b
  dsimp only at *
  have hB0 : Below w.heap.size w ((w.alloc (.cells #[.slice A ps.length c, .int .i64 n] 59)).alloc (.cells #[.slice A' qs.length c', .int .i64 m] 59)) := ((Below.refl _ _).alloc (Nat.le_refl _) _).alloc (by simp) _
  go_enter Tryz.func32, Tryz.ntmps32
  go_wp2_with fail
  refine (laws_eqPageS A A' c c' ps qs _ hl hl' ((hR.alloc _).alloc _) ((hR'.alloc _).alloc _)).mono ?_
  rintro e w1 ⟨rfl, hb1⟩
  have hB1 := hB0.trans (hb1.mono hB0.size)
  have x1 : w1.cell? ⟨w.heap.size, 1, none⟩ = some (.int .i64 n) := (hb1.cell (by simp; omega)).trans (by simp)
  have y1 : w1.cell? ⟨w.heap.size + 1, 1, none⟩ = some (.int .i64 m) := (hb1.cell (by simp)).trans (by simp)
  clear hb1 hB0
  by_cases hpq : ps = qs
  · subst hpq
    have hq : Hid (∀ x, x = decide (n = m) → decide ((⟨ps, n⟩ : Bk) = ⟨ps, m⟩) = x) := by intro x hx; rw [hx]; simp
    rw [show decide (ps = ps) = true from by simp]
    go_wp2
    all_goals (go_ret; exact ⟨ret_bool (hq.out _ (by simp_all)).symm, hB1⟩)
  · have hq : Hid (decide ((⟨ps, n⟩ : Bk) = ⟨qs, m⟩) = false) := by unfold Hid; simp [hpq]
    rw [show decide (ps = qs) = false from by simpa using hpq]
    clear hpq
    go_wp2
    go_ret
    exact ⟨ret_bool hq.out.symm, hB1⟩
set_option maxHeartbeats 1000000 in
theorem laws_eqBlockS (A A' : Option Addr) (c c' : Nat) (f g : List Bk) (w : World) (hl : f.length < 1000000000000) (hl' : g.length < 1000000000000) (hp : ∀ b ∈ f, b.pages.length < 1000000000000) (hp' : ∀ b ∈ g, b.pages.length < 1000000000000) (hF : Fl w A f) (hF' : Fl w A' g) :
    Calls Tryz.prog 18 #[.slice A f.length c, .slice A' g.length c'] w fun e w' => e = .returned (.bool (decide (f = g))) ∧ Below w.heap.size w w' := by
  obtain ⟨hs, hF⟩ := hF
  obtain ⟨ks, hF'⟩ := hF'
  by_cases hn : f.length = g.length
  · have HN := Lib.hid hn
    have HP := Lib.hid hp
    have HP' := Lib.hid hp'
    rw [← hn]
    clear hn hl' hp hp'
    go_enter Tryz.func18, Tryz.ntmps18
    go_wp2
    go_loopw [5] (fun i wr => ∃ (k : Nat), k ≤ f.length ∧ i = .int .i64 k ∧ Below w.heap.size w wr ∧ Hid (decide (f = g) = decide (f.drop k = g.drop k))) (fun i _ => f.length - (intOf i).toNat)
    case atStart => exact ⟨0, by omega, rfl, Below.refl _ _, by simp [Hid]⟩
    case round =>
      obtain ⟨k, hk, rfl, hb, hg⟩ := hrel
      by_cases hlt : k < f.length
      · obtain ⟨p, hp⟩ := get_some hlt
        obtain ⟨q, hq⟩ := get_some (l := g) (k := k) (by have := HN.out; omega)
        have hd := Lib.hid (eq_drop hp hq)
        have hpl := HP.out p (List.mem_of_getElem? hp)
        have hql := HP'.out q (List.mem_of_getElem? hq)
        obtain ⟨b, o, rfl⟩ := hF.addr (by rintro rfl; simp at hlt)
        obtain ⟨b', o', rfl⟩ := hF'.addr (by rintro rfl; simp at hq)
        have hFk := hF.below hb (Nat.le_refl _)
        have hFk' := hF'.below hb (Nat.le_refl _)
        obtain ⟨⟨Ap, cp⟩, _, c0, c1, _, _, hRp, _⟩ := hFk.at_ hp
        obtain ⟨⟨Aq, cq⟩, _, d0, d1, _, _, hRq, _⟩ := hFk'.at_ hq
        have hk1 : (k : Int) < f.length := by omega
        dsimp only at *
        have hbb := lt_of_cell c0
        have hbb' := lt_of_cell d0
        clear hp hq
        go_wp2
        go_region_held3 (fun w' => w'.cell? ⟨b, o + k * 2, none⟩ = some (.slice Ap p.pages.length cp) ∧ w'.cell? ⟨b, o + k * 2 + 1, none⟩ = some (.int .i64 p.worn) ∧ w'.cell? ⟨b', o' + k * 2, none⟩ = some (.slice Aq q.pages.length cq) ∧ w'.cell? ⟨b', o' + k * 2 + 1, none⟩ = some (.int .i64 q.worn))
          (first | go_keep | trivial)
          (first | (go_at_call 32; refine (laws_eqBlock p q Ap Aq cp cq _ hpl hql hRp.drew hRq.drew).mono ?_; rintro e w1 ⟨rfl, hb1⟩; replace hb1 := undrew hb1; have e0 := (hb1.cell (p := ⟨b, o + k * 2, none⟩) hbb).trans c0; have e1 := (hb1.cell (p := ⟨b, o + k * 2 + 1, none⟩) hbb).trans c1; have g0 := (hb1.cell (p := ⟨b', o' + k * 2, none⟩) hbb').trans d0; have g1 := (hb1.cell (p := ⟨b', o' + k * 2 + 1, none⟩) hbb').trans d1))
        have hB1 := hb.trans (hb1.mono hb.size)
        go_wp2
        · have hne : (!decide (p = q)) = true := by assumption
          have hne' : decide (p = q) = false := by simpa using hne
          go_ret
          exact ⟨ret_bool (by rw [hg.out, hd.out, hne']; rfl), hB1⟩
        · have heq : (!decide (p = q)) = false := by assumption
          have heq' : decide (p = q) = true := by simpa using heq
          go_roundw
          case rel => exact ⟨k + 1, by omega, by go_num, hB1, by rw [Hid, hg.out, hd.out, heq', Bool.true_and]⟩
          case measure => simp [intOf]; omega
      · obtain rfl : k = f.length := by omega
        go_wp2
        go_ret
        exact ⟨ret_bool (by rw [hg.out, List.drop_of_length_le (Nat.le_refl _), List.drop_of_length_le (by have := HN.out; omega)]; rfl), hb⟩
  · have hq : Hid (decide (f = g) = false) := by unfold Hid; simp; intro e; exact hn (by rw [e])
    go_enter Tryz.func18, Tryz.ntmps18
    go_wp2
    go_ret
    exact ⟨ret_bool hq.out.symm, Below.refl _ _⟩
end Go.Proofs.YtohkoogmbfaceaaGreat
namespace Go.Proofs.YtohkoogmbfaceaaGreat
set_option linter.unusedVariables false
set_option linter.unusedSimpArgs false
open Go.RowKit Go.Maps
set_option maxHeartbeats 400000
def markPs : Int → List Pg → List Pg
  | _, [] => []
  | k, _ :: ps => ⟨k, ⟨k + 1, k + 1 + 1, k + 1 + 1 + 1, k + 1 + 1 + 1 + 1⟩⟩ :: markPs (k + 1 + 1 + 1 + 1 + 1) ps
def endPs : Int → List Pg → Int
  | k, [] => k
  | k, _ :: ps => endPs (k + 1 + 1 + 1 + 1 + 1) ps
def markFl : Int → List Bk → List Bk
  | _, [] => []
  | k, b :: f => ⟨markPs k b.pages, endPs k b.pages⟩ :: markFl (endPs k b.pages + 1) f
def endFl : Int → List Bk → Int
  | k, [] => k
  | k, b :: f => endFl (endPs k b.pages + 1) f
theorem endPs_eq : ∀ (ps : List Pg) (k : Int), endPs k ps = k + 5 * ps.length
  | [], k => by simp [endPs]
  | _ :: ps, k => by rw [endPs, endPs_eq ps]; simp only [List.length_cons]; omega
theorem markPs_len : ∀ (ps : List Pg) (k : Int), (markPs k ps).length = ps.length
  | [], _ => rfl
  | _ :: ps, k => by simp [markPs, markPs_len ps]
theorem markFl_len : ∀ (f : List Bk) (k : Int), (markFl k f).length = f.length
  | [], _ => rfl
  | _ :: f, k => by simp [markFl, markFl_len f]
theorem markPs_at : ∀ (ps : List Pg) (k : Int) (j : Nat) (p : Pg), ps[j]? = some p → (markPs k ps)[j]? = some ⟨k + 5 * j, ⟨k + 5 * j + 1, k + 5 * j + 1 + 1, k + 5 * j + 1 + 1 + 1, k + 5 * j + 1 + 1 + 1 + 1⟩⟩
  | [], _, _, _, h => by simp at h
  | q :: ps, k, 0, p, h => by simp [markPs]
  | q :: ps, k, j + 1, p, h => by
    rw [markPs, List.getElem?_cons_succ, markPs_at ps _ j p (by simpa using h), show k + 1 + 1 + 1 + 1 + 1 + 5 * (j : Int) = k + 5 * ((j + 1 : Nat) : Int) by omega]
/-- the marks behind j pages, the old pages from there on -/
theorem mark_step (ps : List Pg) (k : Int) (j : Nat) (h : j < ps.length) : ((markPs k ps).take j ++ ps.drop j).set j ⟨k + 5 * j, ⟨k + 5 * j + 1, k + 5 * j + 1 + 1, k + 5 * j + 1 + 1 + 1, k + 5 * j + 1 + 1 + 1 + 1⟩⟩ = (markPs k ps).take (j + 1) ++ ps.drop (j + 1) := by
  have hl := markPs_len ps k
  obtain ⟨p, hp⟩ := get_some h
  rw [List.set_append_right _ _ (by simp; omega), show j - ((markPs k ps).take j).length = 0 by simp; omega, List.drop_eq_getElem_cons h, List.set_cons_zero, List.take_add_one, markPs_at ps k j p hp]
  simp
theorem laws_markPageS (A : Option Addr) (c : Nat) (ps : List Pg) (k : Int) (w : World) (hl : ps.length < 1000000000000) (h0 : 0 ≤ k) (h1 : k < 1000000000000000) (hR : Row w A (pgs ps)) :
    Calls Tryz.prog 33 #[.slice A ps.length c, .int .i64 k] w fun e w' => e = .returned (.int .i64 (endPs k ps)) ∧ Row w' A (pgs (markPs k ps)) ∧ Agr (blk A) w w' := by
  go_enter Tryz.func33, Tryz.ntmps33
  go_wp2
  go_loopw [1, 5] (fun q i wr => ∃ (j : Nat), j ≤ ps.length ∧ i = .int .i64 j ∧ q = .int .i64 (k + 5 * j) ∧ Row wr A (pgs ((markPs k ps).take j ++ ps.drop j)) ∧ Agr (blk A) w wr) (fun _ i _ => ps.length - (intOf i).toNat)
  case atStart => exact ⟨0, by omega, rfl, by simp, by simpa using hR, Agr.refl _ _⟩
  case round =>
    obtain ⟨j, hj, rfl, rfl, hr, hA⟩ := hrel
    have hml := Lib.hid (markPs_len ps k)
    by_cases hlt : j < ps.length
    · obtain ⟨b, o, rfl⟩ := hR.addr (pgs_ne (by rintro rfl; simp at hlt))
      obtain ⟨q, hq⟩ := get_some (l := (markPs k ps).take j ++ ps.drop j) (k := j) (by have := hml.out; simp; omega)
      obtain ⟨c0, c1, c2, c3, c4⟩ := hr.pg hq
      obtain ⟨f0, f1, f2, f3, f4⟩ := hr.pgf hq
      have hW := wrote_page hr hq ⟨k + 5 * j, ⟨k + 5 * j + 1, k + 5 * j + 1 + 1, k + 5 * j + 1 + 1 + 1, k + 5 * j + 1 + 1 + 1 + 1⟩⟩
      have hr2 := hr.setPage (k := j) (by have := hml.out; simp; omega) hW
      rw [mark_step ps k j hlt] at hr2
      have hA2 := hA.trans hW.agr (fun _ _ e => by rw [e]; exact blk_some.2 rfl)
      have hj1 : (j : Int) < ps.length := by omega
      clear hW hq
      go_wp2
      go_roundw
      case rel => exact ⟨j + 1, by omega, by go_num, by congr 1; omega, hr2, hA2⟩
      case measure => simp [intOf]; omega
    · obtain rfl : j = ps.length := by omega
      go_wp2
      go_ret
      rw [List.take_of_length_le (by rw [hml.out]; exact Nat.le_refl _), List.drop_of_length_le (Nat.le_refl _), List.append_nil] at hr
      exact ⟨ret_int (endPs_eq ps k).symm, hr, hA⟩
theorem laws_heldPageS (A : Option Addr) (n c : Nat) (ps : List Pg) (k : Int) (w : World) (hn : n = ps.length) (hl : n < 1000000000000) (h0 : 0 ≤ k) (h1 : k < 1000000000000000) (hR : Row w A (pgs (markPs k ps))) :
    Calls Tryz.prog 34 #[.slice A n c, .int .i64 k] w fun e w' => e = .returned (.int .i64 (endPs k ps)) ∧ w = w' := by
  have HN := Lib.hid hn
  clear hn
  go_enter Tryz.func34, Tryz.ntmps34
  go_wp2
  go_loop [1, 5] (fun q i => ∃ (j : Nat), j ≤ n ∧ i = .int .i64 j ∧ q = .int .i64 (k + 5 * j)) (fun _ i => n - (intOf i).toNat)
  case atStart => exact ⟨0, by omega, rfl, by simp⟩
  case round =>
    obtain ⟨j, hj, rfl, rfl⟩ := hrel
    by_cases hlt : j < n
    · obtain ⟨p, hp⟩ := get_some (l := ps) (k := j) (by have := HN.out; omega)
      have hq := markPs_at ps k j p hp
      obtain ⟨b, o, rfl⟩ := hR.addr (pgs_ne (by intro e; rw [e] at hq; simp at hq))
      obtain ⟨c0, c1, c2, c3, c4⟩ := hR.pg hq
      dsimp only at c0 c1 c2 c3 c4
      have hj1 : (j : Int) < n := by omega
      clear hq hp
      go_wp2
      go_round
      case rel => exact ⟨j + 1, by omega, by go_num, by congr 1; omega⟩
      case measure => simp [intOf]; omega
    · obtain rfl : j = n := by omega
      go_wp2
      go_ret
      exact ⟨ret_int (by rw [endPs_eq, HN.out]), rfl⟩
theorem endFl_le (P : Int) : ∀ (f : List Bk) (k : Int), (∀ b ∈ f, (b.pages.length : Int) ≤ P) → endFl k f ≤ k + (5 * P + 1) * f.length
  | [], k, _ => by simp [endFl]
  | b :: f, k, h => by
    have h1 := endPs_eq b.pages k
    have h2 := endFl_le P f (endPs k b.pages + 1) (fun c hc => h c (List.mem_cons_of_mem _ hc))
    have h3 := h b (List.mem_cons_self ..)
    rw [endFl, List.length_cons]
    have e : (5 * P + 1) * ((f.length + 1 : Nat) : Int) = (5 * P + 1) * f.length + (5 * P + 1) := by rw [Int.natCast_add, Int.mul_add]; simp
    rw [e]; omega
theorem endFl_ge : ∀ (f : List Bk) (k : Int), k ≤ endFl k f
  | [], k => Int.le_refl _
  | b :: f, k => by
    have h1 := endPs_eq b.pages k
    have h2 := endFl_ge f (endPs k b.pages + 1)
    rw [endFl]; omega
/-- where the marks of block j begin -/
def atFl : Int → List Bk → Nat → Int
  | k, _, 0 => k
  | k, [], _ => k
  | k, b :: f, j + 1 => atFl (endPs k b.pages + 1) f j
theorem atFl_succ : ∀ (f : List Bk) (k : Int) (j : Nat) (b : Bk), f[j]? = some b → atFl k f (j + 1) = endPs (atFl k f j) b.pages + 1
  | [], _, _, _, h => by simp at h
  | a :: f, k, 0, b, h => by simp at h; subst h; simp [atFl]
  | a :: f, k, j + 1, b, h => by
    have ih := atFl_succ f (endPs k a.pages + 1) j b (by simpa using h)
    simpa [atFl] using ih
theorem atFl_end : ∀ (f : List Bk) (k : Int) (j : Nat), endFl (atFl k f j) (f.drop j) = endFl k f
  | [], k, j => by cases j <;> simp [atFl, endFl]
  | a :: f, k, 0 => by simp [atFl]
  | a :: f, k, j + 1 => by rw [atFl, List.drop_succ_cons, atFl_end f]; rfl
theorem atFl_ge : ∀ (f : List Bk) (k : Int) (j : Nat), k ≤ atFl k f j
  | [], k, j => by cases j <;> simp [atFl]
  | a :: f, k, 0 => by simp [atFl]
  | a :: f, k, j + 1 => by
    have h1 := endPs_eq a.pages k
    have h2 := atFl_ge f (endPs k a.pages + 1) j
    rw [atFl]; omega
theorem markFl_at : ∀ (f : List Bk) (k : Int) (j : Nat) (b : Bk), f[j]? = some b → (markFl k f)[j]? = some ⟨markPs (atFl k f j) b.pages, endPs (atFl k f j) b.pages⟩
  | [], _, _, _, h => by simp at h
  | a :: f, k, 0, b, h => by simp at h; subst h; simp [markFl, atFl]
  | a :: f, k, j + 1, b, h => by
    rw [markFl, List.getElem?_cons_succ, markFl_at f _ j b (by simpa using h)]; rfl
theorem markFl_step (f : List Bk) (k : Int) (j : Nat) (b : Bk) (h : f[j]? = some b) : ((markFl k f).take j ++ f.drop j).set j ⟨markPs (atFl k f j) b.pages, endPs (atFl k f j) b.pages⟩ = (markFl k f).take (j + 1) ++ f.drop (j + 1) := by
  have hl := markFl_len f k
  have hlt := (List.getElem?_eq_some_iff.1 h).1
  rw [List.set_append_right _ _ (by simp; omega), show j - ((markFl k f).take j).length = 0 by simp; omega, List.drop_eq_getElem_cons hlt, List.set_cons_zero, List.take_add_one, markFl_at f k j b h]
  simp
set_option maxHeartbeats 1000000 in
theorem laws_markBlockS' (A : Option Addr) (n c : Nat) (f : List Bk) (hs : List (Option Addr × Nat)) (k : Int) (lo hi : Nat) (w : World) (hn : n = f.length) (hl : f.length < 1000000000000) (hp : ∀ b ∈ f, b.pages.length < 1000000000000) (h0 : 0 ≤ k) (h1 : endFl k f < 1000000000000000) (hBk : Bks w A f hs) (hApt : Apt lo hi A hs) :
    Calls Tryz.prog 21 #[.slice A n c, .int .i64 k] w fun e w' => e = .returned (.int .i64 (endFl k f)) ∧ Bks w' A (markFl k f) hs ∧ Agr (fblk A hs) w w' := by
  subst hn
  have HP := Lib.hid hp
  have HML := Lib.hid (markFl_len f k)
  clear hp
  go_enter Tryz.func21, Tryz.ntmps21
  go_wp2
  go_loopw [1, 5] (fun q i wr => ∃ (j : Nat), j ≤ f.length ∧ i = .int .i64 j ∧ q = .int .i64 (atFl k f j) ∧ Bks wr A ((markFl k f).take j ++ f.drop j) hs ∧ Agr (fblk A hs) w wr) (fun _ i _ => f.length - (intOf i).toNat)
  case atStart => exact ⟨0, by omega, rfl, by cases f <;> rfl, by simpa using hBk, Agr.refl _ _⟩
  case round =>
    obtain ⟨j, hj, rfl, rfl, hb2, hA⟩ := hrel
    by_cases hlt : j < f.length
    · obtain ⟨B, hB⟩ := get_some hlt
      have hBl := HP.out B (List.mem_of_getElem? hB)
      obtain ⟨g, o, rfl⟩ := hBk.addr (by rintro rfl; simp at hlt)
      have hget : ((markFl k f).take j ++ f.drop j)[j]? = some B := by
        have := HML.out
        rw [List.getElem?_append_right (by simp; omega), List.getElem?_drop, ← hB]; congr 1; simp; omega
      obtain ⟨x, hx, c0, c1, f0, f1, hr, _⟩ := hb2.at_ hget
      have ha0 := atFl_ge f k j
      have hae := atFl_end f k j
      rw [drop_cons hB] at hae
      have hge := endFl_ge (f.drop (j + 1)) (endPs (atFl k f j) B.pages + 1)
      rw [endFl] at hae
      have hpe := endPs_eq B.pages (atFl k f j)
      have hm0 : 0 ≤ atFl k f j := by omega
      have hm1 : atFl k f j < 1000000000000000 := by omega
      have he0 : 0 ≤ endPs (atFl k f j) B.pages := by omega
      have he1 : endPs (atFl k f j) B.pages < 1000000000000000 := by omega
      have hj1 : (j : Int) < f.length := by omega
      have HS := Lib.hid (atFl_succ f k j B hB)
      have HST := Lib.hid (markFl_step f k j B hB)
      have HG := Lib.hid hget
      have HX := Lib.hid hx
      clear hae hge hpe hB hget hx
      go_wp2_with fail
      refine (laws_markPageS x.1 x.2 B.pages (atFl k f j) _ hBl hm0 hm1 hr).mono ?_
      rintro e w1 ⟨rfl, hr1, hA1⟩
      have hb3 := hb2.newPages hApt HG.out HX.out (markPs_len _ _) hr1 hA1
      have hget3 : (((markFl k f).take j ++ f.drop j).set j { B with pages := markPs (atFl k f j) B.pages })[j]? = some { B with pages := markPs (atFl k f j) B.pages } := by
        have := HML.out
        rw [List.getElem?_set_self (by simp; omega)]
      obtain ⟨_, _, d0, d1, g0, g1, _, _⟩ := hb3.at_ hget3
      have hW := wrote_one d1 (.int .i64 (endPs (atFl k f j) B.pages))
      have hb4 := hb3.setHdr (n := endPs (atFl k f j) B.pages) hApt hget3 HX.out (by
        obtain ⟨y, hy, e0, _⟩ := hb3.at_ hget3
        rw [HX.out] at hy; cases hy
        exact hW.less e0)
      rw [List.set_set] at hb4
      dsimp only at hb4
      rw [HST.out] at hb4
      have hgl := hApt.top g (by rw [blk_some])
      have hA4 := (hA.trans hA1 (S := fblk (some ⟨g, o, none⟩) hs) (fun i _ hi' => .inr ⟨j, x, HX.out, hi'⟩)).trans hW.agr (fun i _ e => .inl (by rw [e, blk_some]))
      clear hW hb3 hget3 hA1 hr1 c0 c1 hr
      go_wp2
      go_roundw
      case rel => exact ⟨j + 1, by omega, by go_num, by rw [HS.out], hb4, hA4⟩
      case measure => simp [intOf]; omega
    · obtain rfl : j = f.length := by omega
      go_wp2
      go_ret
      have := HML.out
      rw [List.take_of_length_le (by omega), List.drop_of_length_le (Nat.le_refl _), List.append_nil] at hb2
      have he := atFl_end f k f.length
      rw [List.drop_of_length_le (Nat.le_refl _), endFl] at he
      exact ⟨ret_int he, hb2, hA⟩
theorem laws_heldBlockS (A : Option Addr) (n c : Nat) (f : List Bk) (k : Int) (w : World) (hn : n = f.length) (hl : n < 1000000000000) (hp : ∀ b ∈ f, b.pages.length < 1000000000000) (h0 : 0 ≤ k) (h1 : endFl k f < 1000000000000000) (hF : Fl w A (markFl k f)) :
    Calls Tryz.prog 23 #[.slice A n c, .int .i64 k] w fun e w' => e = .returned (.int .i64 (endFl k f)) ∧ w = w' := by
  obtain ⟨hs, hBk⟩ := hF
  have HP := Lib.hid hp
  have HN := Lib.hid hn
  clear hp hn
  go_enter Tryz.func23, Tryz.ntmps23
  go_wp2
  go_loop [1, 5] (fun q i => ∃ (j : Nat), j ≤ n ∧ i = .int .i64 j ∧ q = .int .i64 (atFl k f j)) (fun _ i => n - (intOf i).toNat)
  case atStart => exact ⟨0, by omega, rfl, by cases f <;> rfl⟩
  case round =>
    obtain ⟨j, hj, rfl, rfl⟩ := hrel
    by_cases hlt : j < n
    · obtain ⟨B, hB⟩ := get_some (l := f) (k := j) (by have := HN.out; omega)
      have hBl := HP.out B (List.mem_of_getElem? hB)
      have hget := markFl_at f k j B hB
      obtain ⟨g, o, rfl⟩ := hBk.addr (by intro e; rw [e] at hget; simp at hget)
      obtain ⟨x, hx, c0, c1, f0, f1, hr, _⟩ := hBk.at_ hget
      dsimp only at c0 c1 hr
      have ha0 := atFl_ge f k j
      have hae := atFl_end f k j
      rw [drop_cons hB] at hae
      have hge := endFl_ge (f.drop (j + 1)) (endPs (atFl k f j) B.pages + 1)
      rw [endFl] at hae
      have hpe := endPs_eq B.pages (atFl k f j)
      have hm0 : 0 ≤ atFl k f j := by omega
      have hm1 : atFl k f j < 1000000000000000 := by omega
      have he0 : 0 ≤ endPs (atFl k f j) B.pages := by omega
      have he1 : endPs (atFl k f j) B.pages < 1000000000000000 := by omega
      have hj1 : (j : Int) < n := by omega
      have HS := Lib.hid (atFl_succ f k j B hB)
      have hml := markPs_len B.pages (atFl k f j)
      have hml1 : (markPs (atFl k f j) B.pages).length < 1000000000000 := by omega
      have HML := Lib.hid hml
      clear hae hge hpe hB hget hx hml
      go_wp2_with fail
      refine (laws_heldPageS x.1 _ x.2 B.pages (atFl k f j) _ HML.out hml1 hm0 hm1 hr).mono ?_
      rintro e w1 ⟨rfl, rfl⟩
      go_wp2
      go_round
      case rel => exact ⟨j + 1, by omega, by go_num, by rw [HS.out]⟩
      case measure => simp [intOf]; omega
    · obtain rfl : j = n := by omega
      go_wp2
      go_ret
      have he := atFl_end f k f.length
      rw [List.drop_of_length_le (Nat.le_refl _), endFl] at he
      exact ⟨ret_int (by rw [HN.out]; exact he), rfl⟩
end Go.Proofs.YtohkoogmbfaceaaGreat
namespace Go.Proofs.YtohkoogmbfaceaaGreat
set_option linter.unusedVariables false
set_option linter.unusedSimpArgs false
open Go.RowKit Go.Maps
set_option maxHeartbeats 400000
theorem OFl.far {w w' : World} {lo hi lo' hi' : Nat} {A : Option Addr} {f : List Bk} (h : OFl w lo hi A f) (ha : Agr (fun b => lo' ≤ b ∧ b < hi') w w') (hd : hi ≤ lo' ∨ hi' ≤ lo) : OFl w' lo hi A f :=
  h.agr ha fun b h1 h2 h3 => by omega
end Go.Proofs.YtohkoogmbfaceaaGreat
namespace Go.Proofs.YtohkoogmbfaceaaGreat
set_option linter.unusedVariables false
set_option linter.unusedSimpArgs false
open Go.RowKit Go.Maps
set_option maxHeartbeats 400000
/-- a store of one's own: a flash and a row of numbers, in blocks from lo on and below hi -/
def OSt (w : World) (lo hi : Nat) (A : Option Addr) (f : List Bk) (D : Option Addr) (xs : List Int) : Prop :=
  ∃ hs, Bks w A f hs ∧ Apt lo hi A hs ∧ Row w D (ints xs) ∧ ∀ b, blk D b → lo ≤ b ∧ b < hi ∧ ¬ blk A b ∧ ∀ (i : Nat) (x : Option Addr × Nat), hs[i]? = some x → ¬ blk x.1 b
theorem OSt.keep {w w' : World} {lo hi : Nat} {A D : Option Addr} {f : List Bk} {xs : List Int} (h : OSt w lo hi A f D xs) (hk : ∀ b, lo ≤ b → b < hi → b < w.heap.size → w'.heap[b]? = w.heap[b]?) : OSt w' lo hi A f D xs := by
  obtain ⟨hs, h1, h2, h3, h4⟩ := h
  refine ⟨hs, h1.keep fun b hb hl => ?_, h2, h3.keep fun b hb hl => hk b (h4 b hb).1 (h4 b hb).2.1 hl, h4⟩
  rcases hb with hb | ⟨x, hx, hb⟩
  · have := h2.top b hb; exact hk b this.1 this.2 hl
  · obtain ⟨i, hi'⟩ := List.getElem?_of_mem hx
    have := h2.in_ i x b hi' hb; exact hk b this.1 this.2.1 hl
theorem OSt.below {w w' : World} {lo hi B : Nat} {A D : Option Addr} {f : List Bk} {xs : List Int} (h : OSt w lo hi A f D xs) (hb : Below B w w') (hB : w.heap.size ≤ B) : OSt w' lo hi A f D xs := h.keep fun b _ _ hl => hb.block b (by omega)
theorem OSt.far {w w' : World} {lo hi lo' hi' : Nat} {A D : Option Addr} {f : List Bk} {xs : List Int} (h : OSt w lo hi A f D xs) (ha : Agr (fun b => lo' ≤ b ∧ b < hi') w w') (hd : hi ≤ lo' ∨ hi' ≤ lo) : OSt w' lo hi A f D xs :=
  h.keep fun b h1 h2 hl => ha.block b hl (by omega)
theorem OSt.ofl {w : World} {lo hi : Nat} {A D : Option Addr} {f : List Bk} {xs : List Int} (h : OSt w lo hi A f D xs) : OFl w lo hi A f := by obtain ⟨hs, h1, h2, _⟩ := h; exact ⟨hs, h1, h2⟩
theorem OSt.disk {w : World} {lo hi : Nat} {A D : Option Addr} {f : List Bk} {xs : List Int} (h : OSt w lo hi A f D xs) : Row w D (ints xs) := by obtain ⟨hs, _, _, h3, _⟩ := h; exact h3
theorem OSt.mono {w : World} {lo hi lo' hi' : Nat} {A D : Option Addr} {f : List Bk} {xs : List Int} (h : OSt w lo hi A f D xs) (h1 : lo' ≤ lo) (h2 : hi ≤ hi') : OSt w lo' hi' A f D xs := by
  obtain ⟨hs, a, b, c, d⟩ := h
  exact ⟨hs, a, b.mono h1 h2, c, fun x hx => by have := d x hx; exact ⟨by omega, by omega, this.2.2⟩⟩
/-- the flash lies in some blocks, the numbers in others -/
theorem OSt.mk' {w : World} {lo hi lf hf d o : Nat} {A : Option Addr} {f : List Bk} {xs : List Int} (h : OFl w lf hf A f) (hr : Row w (some ⟨d, o, none⟩) (ints xs)) (h1 : lo ≤ lf) (h2 : hf ≤ hi) (h3 : lo ≤ d) (h4 : d < hi) (h5 : d < lf ∨ hf ≤ d) : OSt w lo hi A f (some ⟨d, o, none⟩) xs := by
  obtain ⟨hs, a, b⟩ := h
  refine ⟨hs, a, b.mono h1 h2, hr, fun x hx => ?_⟩
  rw [blk_some] at hx
  subst hx
  exact ⟨h3, h4, fun e => by have := b.top d e; omega, fun i y hy e => by have := b.in_ i y d hy e; omega⟩
theorem make_disk (w : World) : (Instr.makeSlice 25 (.int .i64 6) (.int .i64 6)).run Tryz.prog w = .ok (.slice (some ⟨w.heap.size, 0, none⟩) 6 6) (w.alloc (.cells #[.int .i64 0, .int .i64 0, .int .i64 0, .int .i64 0, .int .i64 0, .int .i64 0] 3)) := by kernel_rfl
def disk0 : List Int := [0, 0, 0, 0, 0, 0]
/-- what StoreNew answers -/
def StNewPost (w : World) (e : Ending) (w' : World) : Prop :=
  ∃ A c D, e = .returned (.agg #[.slice A 4 c, .slice D 6 6]) ∧ 4 ≤ c ∧ OSt w' w.heap.size w'.heap.size A flashNew D disk0 ∧ Below w.heap.size w w'
theorem spec_StoreNew (w : World) : Calls Tryz.prog 13 #[] w (StNewPost w) := by
  have hmk := make_disk
  go_enter Tryz.func13, Tryz.ntmps13
  go_wp2_with fail
  go_region_with (first | (go_at_call 25; refine (spec_FlashNew _).mono ?_; rintro e w1 ⟨g, c, rfl, hc, hO, hb⟩; have r0 : w1.cell? ⟨w.heap.size, 0, none⟩ = some (.slice none 0 0) := (hb.cell (p := ⟨w.heap.size, 0, none⟩) (by simp <;> omega)).trans (by simp); have r1 : w1.cell? ⟨w.heap.size, 1, none⟩ = some (.slice none 0 0) := (hb.cell (p := ⟨w.heap.size, 1, none⟩) (by simp <;> omega)).trans (by simp); have r2 : w1.frozen? ⟨w.heap.size, 0, none⟩ = false := (hb.frozen (p := ⟨w.heap.size, 0, none⟩) (by simp <;> omega)).trans (by simp); have r3 : w1.frozen? ⟨w.heap.size, 1, none⟩ = false := (hb.frozen (p := ⟨w.heap.size, 1, none⟩) (by simp <;> omega)).trans (by simp); have hz : w.heap.size < w1.heap.size := by have := hb.size; simp at this; omega))
  · -- the flash first
    have hB : Below w.heap.size w w1 := Below.trans (by (repeat (first | (with_reducible exact Below.refl _ _) | (with_reducible assumption) | (refine Below.setCell ?_ (by first | omega | exact hB.size | exact hb.size | (have h := hB.size; simp; omega) | (have h := hb.size; simp; omega) | (simp; omega) | simp) _) | (refine Below.alloc ?_ (by first | omega | exact hB.size | exact hb.size | (have h := hB.size; simp; omega) | (have h := hb.size; simp; omega) | (simp; omega) | simp) _) | (refine Below.drew ?_)))) (hb.mono (by simp <;> omega))
    have hO2 : OFl w1 (w.heap.size + 1) w1.heap.size (some ⟨g, 0, none⟩) flashNew := hO.mono (by simp <;> omega) (Nat.le_refl _)
    clear hO hb
    go_wp2
    refine bodyPost_ret (v := .agg #[.slice (some ⟨g, 0, none⟩) 4 c, .slice (some ⟨w1.heap.size, 0, none⟩) 6 6]) (by simp [results, Tryz.results13, go_sem, hz, r0, r1]) rfl ⟨_, _, _, rfl, hc, ?_, ?_⟩
    · refine OSt.mk' (lf := w.heap.size + 1) (hf := w1.heap.size) (hO2.keep fun d h1 h2 hl => ?_) ?_ (by omega) (by simp) (by omega) (by simp) (.inr (Nat.le_refl _))
      · rw [Below.heap_alloc _ _ _ (by simpa using hl), Below.heap_setCell _ _ _ _ (by simp; omega), Below.heap_setCell _ _ _ _ (by simp; omega)]
      · have := Row.new ((w1.setCell ⟨w.heap.size, 0, none⟩ (.slice (some ⟨g, 0, none⟩) 4 c)).setCell ⟨w.heap.size, 1, none⟩ (.slice (some ⟨w1.heap.size, 0, none⟩) 6 6)) #[.int .i64 0, .int .i64 0, .int .i64 0, .int .i64 0, .int .i64 0, .int .i64 0] 3
        simp only [World.size_setCell] at this
        exact this
    · (repeat (first | (with_reducible exact Below.refl _ _) | (with_reducible assumption) | (refine Below.setCell ?_ (by first | omega | exact hB.size | exact hb.size | (have h := hB.size; simp; omega) | (have h := hb.size; simp; omega) | (simp; omega) | simp) _) | (refine Below.alloc ?_ (by first | omega | exact hB.size | exact hb.size | (have h := hB.size; simp; omega) | (have h := hb.size; simp; omega) | (simp; omega) | simp) _) | (refine Below.drew ?_)))
  · -- the numbers first
    have hB : Below w.heap.size w w1 := Below.trans (by (repeat (first | (with_reducible exact Below.refl _ _) | (with_reducible assumption) | (refine Below.setCell ?_ (by first | omega | exact hB.size | exact hb.size | (have h := hB.size; simp; omega) | (have h := hb.size; simp; omega) | (simp; omega) | simp) _) | (refine Below.alloc ?_ (by first | omega | exact hB.size | exact hb.size | (have h := hB.size; simp; omega) | (have h := hb.size; simp; omega) | (simp; omega) | simp) _) | (refine Below.drew ?_)))) (hb.mono (by simp <;> omega))
    have hO2 : OFl w1 (w.heap.size + 1 + 1) w1.heap.size (some ⟨g, 0, none⟩) flashNew := hO.mono (by simp <;> omega) (Nat.le_refl _)
    have hD : Row w1 (some ⟨w.heap.size + 1, 0, none⟩) (ints disk0) := by
      have := Row.new (w.alloc (.cells #[.slice none 0 0, .slice none 0 0] 27)) #[.int .i64 0, .int .i64 0, .int .i64 0, .int .i64 0, .int .i64 0, .int .i64 0] 3
      simp only [World.size_alloc] at this
      exact (Row.drew this).below hb (Nat.le_refl _)
    have hz2 : w.heap.size + 1 < w1.heap.size := by have := hb.size; simp at this; omega
    clear hO hb
    go_wp2
    refine bodyPost_ret (v := .agg #[.slice (some ⟨g, 0, none⟩) 4 c, .slice (some ⟨w.heap.size + 1, 0, none⟩) 6 6]) (by simp [results, Tryz.results13, go_sem, hz, r0, r1]) rfl ⟨_, _, _, rfl, hc, ?_, ?_⟩
    · refine OSt.mk' (lf := w.heap.size + 1 + 1) (hf := w1.heap.size) (hO2.keep fun d h1 h2 hl => ?_) (hD.keep fun d hd hl => ?_) (by omega) (by simp) (by omega) (by simpa using hz2) (.inl (by omega))
      · rw [Below.heap_setCell _ _ _ _ (by simp; omega), Below.heap_setCell _ _ _ _ (by simp; omega)]
      · rw [blk_some] at hd
        rw [Below.heap_setCell _ _ _ _ (by simp; omega), Below.heap_setCell _ _ _ _ (by simp; omega)]
    · (repeat (first | (with_reducible exact Below.refl _ _) | (with_reducible assumption) | (refine Below.setCell ?_ (by first | omega | exact hB.size | exact hb.size | (have h := hB.size; simp; omega) | (have h := hb.size; simp; omega) | (simp; omega) | simp) _) | (refine Below.alloc ?_ (by first | omega | exact hB.size | exact hb.size | (have h := hB.size; simp; omega) | (have h := hb.size; simp; omega) | (simp; omega) | simp) _) | (refine Below.drew ?_)))
theorem impl_StoreNew (w : World) : Calls Tryz.prog 16 #[] w (StNewPost w) := by
  have hmk := make_disk
  go_enter Tryz.func16, Tryz.ntmps16
  go_wp2_with fail
  go_region_with (first | (go_at_call 29; refine (impl_FlashNew _).mono ?_; rintro e w1 ⟨g, rfl, hO, hb⟩; have r0 : w1.cell? ⟨w.heap.size, 0, none⟩ = some (.slice none 0 0) := (hb.cell (p := ⟨w.heap.size, 0, none⟩) (by simp <;> omega)).trans (by simp); have r1 : w1.cell? ⟨w.heap.size, 1, none⟩ = some (.slice none 0 0) := (hb.cell (p := ⟨w.heap.size, 1, none⟩) (by simp <;> omega)).trans (by simp); have r2 : w1.frozen? ⟨w.heap.size, 0, none⟩ = false := (hb.frozen (p := ⟨w.heap.size, 0, none⟩) (by simp <;> omega)).trans (by simp); have r3 : w1.frozen? ⟨w.heap.size, 1, none⟩ = false := (hb.frozen (p := ⟨w.heap.size, 1, none⟩) (by simp <;> omega)).trans (by simp); have hz : w.heap.size < w1.heap.size := by have := hb.size; simp at this; omega))
  · -- the flash first
    have hB : Below w.heap.size w w1 := Below.trans (by (repeat (first | (with_reducible exact Below.refl _ _) | (with_reducible assumption) | (refine Below.setCell ?_ (by first | omega | exact hB.size | exact hb.size | (have h := hB.size; simp; omega) | (have h := hb.size; simp; omega) | (simp; omega) | simp) _) | (refine Below.alloc ?_ (by first | omega | exact hB.size | exact hb.size | (have h := hB.size; simp; omega) | (have h := hb.size; simp; omega) | (simp; omega) | simp) _) | (refine Below.drew ?_)))) (hb.mono (by simp <;> omega))
    have hO2 : OFl w1 (w.heap.size + 1) w1.heap.size (some ⟨g, 0, none⟩) flashNew := hO.mono (by simp <;> omega) (Nat.le_refl _)
    clear hO hb
    go_wp2
    refine bodyPost_ret (v := .agg #[.slice (some ⟨g, 0, none⟩) 4 4, .slice (some ⟨w1.heap.size, 0, none⟩) 6 6]) (by simp [results, Tryz.results16, go_sem, hz, r0, r1]) rfl ⟨_, _, _, rfl, Nat.le_refl _, ?_, ?_⟩
    · refine OSt.mk' (lf := w.heap.size + 1) (hf := w1.heap.size) (hO2.keep fun d h1 h2 hl => ?_) ?_ (by omega) (by simp) (by omega) (by simp) (.inr (Nat.le_refl _))
      · rw [Below.heap_alloc _ _ _ (by simpa using hl), Below.heap_setCell _ _ _ _ (by simp; omega), Below.heap_setCell _ _ _ _ (by simp; omega)]
      · have := Row.new ((w1.setCell ⟨w.heap.size, 0, none⟩ (.slice (some ⟨g, 0, none⟩) 4 4)).setCell ⟨w.heap.size, 1, none⟩ (.slice (some ⟨w1.heap.size, 0, none⟩) 6 6)) #[.int .i64 0, .int .i64 0, .int .i64 0, .int .i64 0, .int .i64 0, .int .i64 0] 3
        simp only [World.size_setCell] at this
        exact this
    · (repeat (first | (with_reducible exact Below.refl _ _) | (with_reducible assumption) | (refine Below.setCell ?_ (by first | omega | exact hB.size | exact hb.size | (have h := hB.size; simp; omega) | (have h := hb.size; simp; omega) | (simp; omega) | simp) _) | (refine Below.alloc ?_ (by first | omega | exact hB.size | exact hb.size | (have h := hB.size; simp; omega) | (have h := hb.size; simp; omega) | (simp; omega) | simp) _) | (refine Below.drew ?_)))
  · -- the numbers first
    have hB : Below w.heap.size w w1 := Below.trans (by (repeat (first | (with_reducible exact Below.refl _ _) | (with_reducible assumption) | (refine Below.setCell ?_ (by first | omega | exact hB.size | exact hb.size | (have h := hB.size; simp; omega) | (have h := hb.size; simp; omega) | (simp; omega) | simp) _) | (refine Below.alloc ?_ (by first | omega | exact hB.size | exact hb.size | (have h := hB.size; simp; omega) | (have h := hb.size; simp; omega) | (simp; omega) | simp) _) | (refine Below.drew ?_)))) (hb.mono (by simp <;> omega))
    have hO2 : OFl w1 (w.heap.size + 1 + 1) w1.heap.size (some ⟨g, 0, none⟩) flashNew := hO.mono (by simp <;> omega) (Nat.le_refl _)
    have hD : Row w1 (some ⟨w.heap.size + 1, 0, none⟩) (ints disk0) := by
      have := Row.new (w.alloc (.cells #[.slice none 0 0, .slice none 0 0] 27)) #[.int .i64 0, .int .i64 0, .int .i64 0, .int .i64 0, .int .i64 0, .int .i64 0] 3
      simp only [World.size_alloc] at this
      exact (Row.drew this).below hb (Nat.le_refl _)
    have hz2 : w.heap.size + 1 < w1.heap.size := by have := hb.size; simp at this; omega
    clear hO hb
    go_wp2
    refine bodyPost_ret (v := .agg #[.slice (some ⟨g, 0, none⟩) 4 4, .slice (some ⟨w.heap.size + 1, 0, none⟩) 6 6]) (by simp [results, Tryz.results16, go_sem, hz, r0, r1]) rfl ⟨_, _, _, rfl, Nat.le_refl _, ?_, ?_⟩
    · refine OSt.mk' (lf := w.heap.size + 1 + 1) (hf := w1.heap.size) (hO2.keep fun d h1 h2 hl => ?_) (hD.keep fun d hd hl => ?_) (by omega) (by simp) (by omega) (by simpa using hz2) (.inl (by omega))
      · rw [Below.heap_setCell _ _ _ _ (by simp; omega), Below.heap_setCell _ _ _ _ (by simp; omega)]
      · rw [blk_some] at hd
        rw [Below.heap_setCell _ _ _ _ (by simp; omega), Below.heap_setCell _ _ _ _ (by simp; omega)]
    · (repeat (first | (with_reducible exact Below.refl _ _) | (with_reducible assumption) | (refine Below.setCell ?_ (by first | omega | exact hB.size | exact hb.size | (have h := hB.size; simp; omega) | (have h := hb.size; simp; omega) | (simp; omega) | simp) _) | (refine Below.alloc ?_ (by first | omega | exact hB.size | exact hb.size | (have h := hB.size; simp; omega) | (have h := hb.size; simp; omega) | (simp; omega) | simp) _) | (refine Below.drew ?_)))
end Go.Proofs.YtohkoogmbfaceaaGreat
namespace Go.Proofs.YtohkoogmbfaceaaGreat
set_option linter.unusedVariables false
set_option linter.unusedSimpArgs false
open Go.RowKit Go.Maps
set_option maxHeartbeats 400000
theorem spec_l21Steps (s : St) (e : Ev) (A D : Option Addr) (c d : Nat) (w : World) (hf : s.flash.length = 4) (hp : ∀ b ∈ s.flash, b.pages.length = 4) (hm : ∀ b ∈ s.flash, most b < 1000000000000) (hd : s.disk.length = 6) (hF : Fl w A s.flash) (hD : Row w D (ints s.disk)) :
    Calls Tryz.prog 28 #[.agg #[.slice A 4 c, .slice D 6 d], .agg #[.int .i64 e.kind, .int .i64 e.a, .int .i64 e.b, .int .i64 e.c, .bool e.torn]] w fun r w' => ∃ v, r = .returned v ∧ OwnS w' w.heap.size v (stepsOf s e) ∧ Below w.heap.size w w' := by
  obtain ⟨k, a, b, cc, t⟩ := e
  dsimp only
  have HL := Lib.hid hf
  have HP4 := Lib.hid hp
  have HM := Lib.hid hm
  have HD := Lib.hid hd
  have hB : Below w.heap.size w ((w.alloc (.cells #[.slice A 4 c, .slice D 6 d] 27)).alloc (.cells #[.int .i64 k, .int .i64 a, .int .i64 b, .int .i64 cc, .bool t] 40)) := by (repeat (first | (with_reducible exact Below.refl _ _) | (with_reducible assumption) | (refine Below.setCell ?_ (by first | omega | exact hB.size | exact hb.size | (have h := hB.size; simp; omega) | (have h := hb.size; simp; omega) | (simp; omega) | simp) _) | (refine Below.alloc ?_ (by first | omega | exact hB.size | exact hb.size | (have h := hB.size; simp; omega) | (have h := hb.size; simp; omega) | (simp; omega) | simp) _) | (refine Below.drew ?_)))
  have hFz := (hF.alloc (.cells #[.slice A 4 c, .slice D 6 d] 27)).alloc (.cells #[.int .i64 k, .int .i64 a, .int .i64 b, .int .i64 cc, .bool t] 40)
  have hDz := (hD.alloc (.cells #[.slice A 4 c, .slice D 6 d] 27)).alloc (.cells #[.int .i64 k, .int .i64 a, .int .i64 b, .int .i64 cc, .bool t] 40)
  have hfin : Hid (stepsOf s ⟨k, a, b, cc, t⟩ = if k = 1 then wr s.flash 1 a b else if k = 2 then flush s a else if k = 3 then fill s a else []) := rfl
  clear hf hp hm hd
  by_cases h1 : k = 1
  · subst h1
    have h3 : Hid (stepsOf s ⟨1, a, b, cc, t⟩ = wr s.flash 1 a b) := by rw [Hid, hfin.out, if_pos rfl]
    go_enter Tryz.func28, Tryz.ntmps28
    go_wp2_with fail
    refine (spec_l12Write s.flash 1 a b A D c 6 d _ HL.out HP4.out HM.out hFz).mono ?_
    rintro e w1 ⟨v, rfl, hO, hb⟩
    go_wp2
    go_ret
    rw [h3.out]
    exact ⟨_, rfl, hO.mono (by simp; omega), hB.trans (hb.mono (by simp; omega))⟩
  · by_cases h2 : k = 2
    · subst h2
      have h3 : Hid (stepsOf s ⟨2, a, b, cc, t⟩ = flush s a) := by rw [Hid, hfin.out, if_neg h1, if_pos rfl]
      go_enter Tryz.func28, Tryz.ntmps28
      go_wp2_with fail
      refine (spec_l12Flush s a A D c d _ HL.out HP4.out HM.out HD.out hFz hDz).mono ?_
      rintro e w1 ⟨v, rfl, hO, hb⟩
      go_wp2
      go_ret
      rw [h3.out]
      exact ⟨_, rfl, hO.mono (by simp; omega), hB.trans (hb.mono (by simp; omega))⟩
    · by_cases h4 : k = 3
      · subst h4
        have h3 : Hid (stepsOf s ⟨3, a, b, cc, t⟩ = fill s a) := by rw [Hid, hfin.out, if_neg h1, if_neg h2, if_pos rfl]
        go_enter Tryz.func28, Tryz.ntmps28
        go_wp2_with fail
        refine (spec_l12Fill s a A D c d _ HL.out HP4.out HM.out HD.out hFz hDz).mono ?_
        rintro e w1 ⟨v, rfl, hO, hb⟩
        go_wp2
        go_ret
        rw [h3.out]
        exact ⟨_, rfl, hO.mono (by simp; omega), hB.trans (hb.mono (by simp; omega))⟩
      · have h3 : Hid (stepsOf s ⟨k, a, b, cc, t⟩ = []) := by rw [Hid, hfin.out, if_neg h1, if_neg h2, if_neg h4]
        have e1 : (k == 1) = false := by simp [h1]
        have e2 : (k == 2) = false := by simp [h2]
        have e3 : (k == 3) = false := by simp [h4]
        have hO := OwnS.nil ((w.alloc (.cells #[.slice A 4 c, .slice D 6 d] 27)).alloc (.cells #[.int .i64 k, .int .i64 a, .int .i64 b, .int .i64 cc, .bool t] 40)) w.heap.size (by simp; omega)
        simp only [World.size_alloc] at hO
        go_enter Tryz.func28, Tryz.ntmps28
        go_wp2
        go_ret
        rw [h3.out]
        exact ⟨_, rfl, hO, hB.alloc hB.size _⟩
end Go.Proofs.YtohkoogmbfaceaaGreat
namespace Go.Proofs.YtohkoogmbfaceaaGreat
set_option linter.unusedVariables false
set_option linter.unusedSimpArgs false
open Go.RowKit Go.Maps
set_option maxHeartbeats 400000
theorem OSt.alloc' {w : World} {lo hi : Nat} {A D : Option Addr} {f : List Bk} {xs : List Int} (h : OSt w lo hi A f D xs) (o : Obj) : OSt (w.alloc o) lo hi A f D xs := h.below (B := w.heap.size) ((Below.refl _ _).alloc (Nat.le_refl _) _) (Nat.le_refl _)
theorem cell3 {w : World} {a b c : Obj} {i : Nat} {u : Option Value} (h : (w.alloc a).cell? ⟨w.heap.size, i, none⟩ = u) : (((w.alloc a).alloc b).alloc c).cell? ⟨w.heap.size, i, none⟩ = u :=
  ((((Below.refl (w.heap.size + 1) (w.alloc a)).alloc (by simp) b).alloc (by simp) c).cell (p := ⟨w.heap.size, i, none⟩) (by show w.heap.size < _; omega)).trans h
theorem fz3 {w : World} {a b c : Obj} {i : Nat} {u : Bool} (h : (w.alloc a).frozen? ⟨w.heap.size, i, none⟩ = u) : (((w.alloc a).alloc b).alloc c).frozen? ⟨w.heap.size, i, none⟩ = u :=
  ((((Below.refl (w.heap.size + 1) (w.alloc a)).alloc (by simp) b).alloc (by simp) c).frozen (p := ⟨w.heap.size, i, none⟩) (by show w.heap.size < _; omega)).trans h
theorem top3 (w : World) (a b : Obj) (cs : Array Value) (t : TypeId) : Row (((w.alloc a).alloc b).alloc (.cells cs t)) (some ⟨w.heap.size + 1 + 1, 0, none⟩) cs.toList := by
  have := Row.new ((w.alloc a).alloc b) cs t
  simp only [World.size_alloc] at this
  exact this
theorem Row.at0 {w : World} {b : Nat} {vs : List Value} {j : Nat} {u : Value} (h : Row w (some ⟨b, 0, none⟩) vs) (hj : vs[j]? = some u) : w.cell? ⟨b, j, none⟩ = some u ∧ w.frozen? ⟨b, j, none⟩ = false := by
  obtain ⟨b', o', he, hc⟩ := h (by rintro rfl; simp at hj)
  cases he
  have := hc j u hj
  rwa [Nat.zero_add] at this
theorem row_ne6 {xs : List Int} (h : xs.length = 6) : ints xs ≠ [] := by
  intro e
  have := congrArg List.length e
  rw [ints_len, h] at this
  simp at this
set_option maxHeartbeats 4000000 in
set_option maxRecDepth 100000 in
theorem spec_l12Do (s : St) (x : Sp) (torn : Bool) (A D : Option Addr) (c d lo hi : Nat) (w : World) (hs : stFine s) (hx : spFine x) (hhi : hi ≤ w.heap.size) (hO : OSt w lo hi A s.flash D s.disk) :
    Calls Tryz.prog 36 #[.agg #[.slice A 4 c, .slice D 6 d], .agg #[.int .i64 x.kind, .int .i64 x.addr, .int .i64 x.val, .int .i64 x.block, .int .i64 x.rc.kind, .int .i64 x.rc.seq, .int .i64 x.rc.addr, .int .i64 x.rc.val], .bool torn] w fun r w' =>
      r = .returned (.agg #[.slice A 4 c, .slice D 6 d]) ∧ OSt w' lo hi A (doStep s x torn).flash D (doStep s x torn).disk ∧ Agr (fun b => lo ≤ b ∧ b < hi) w w' := by
  obtain ⟨k, a, v, b, rc⟩ := x
  dsimp only
  have hfin : Hid (doStep s ⟨k, a, v, b, rc⟩ torn = if k = 1 then (if torn then s else { s with disk := s.disk.set (a - 1).toNat v }) else if k = 2 then { s with flash := (wipeR s.flash b.toNat torn).1 } else if k = 3 then { s with flash := (writeR s.flash b.toNat rc torn).1 } else s) := rfl
  obtain ⟨hsf, hsd, hsv⟩ := hs
  obtain ⟨hx1, hx2, hx3⟩ := hx
  dsimp only at hx1 hx2 hx3
  have hOS := Lib.hid hO
  obtain ⟨hs, hBk, hApt, hR, hdj⟩ := hO
  have HDJ := Lib.hid hdj
  obtain ⟨db, dO, rfl⟩ := hR.addr (row_ne6 hsd)
  have hdb := HDJ.out db (blk_some.2 rfl)
  by_cases h1 : k = 1
  · subst h1
    obtain ⟨ha1, ha2, hv1, hv2⟩ := hx1 rfl
    obtain ⟨i, rfl⟩ : ∃ i : Nat, a = i + 1 := ⟨(a - 1).toNat, by omega⟩
    have hi6 : i < 6 := by omega
    have hi6' : (i : Int) < 6 := by omega
    cases torn
    · have h3 : Hid (doStep s ⟨1, i + 1, v, b, rc⟩ false = { s with disk := s.disk.set i v }) := by rw [Hid, hfin.out, if_pos rfl, show ((i : Int) + 1 - 1).toNat = i by omega]; rfl
      obtain ⟨u, hu⟩ := get_some (l := s.disk) (k := i) (by omega)
      obtain ⟨c0, f0⟩ := hR.int_ hu
      have hlt := lt_of_cell c0
      have hW := wrote_one c0 (.int .i64 v)
      have hR2 : Row (w.setCell ⟨db, dO + i, none⟩ (.int .i64 v)) (some ⟨db, dO, none⟩) (ints (s.disk.set i v)) := by
        rw [ints_set]
        exact hW.row hR (by rw [ints_len]; simp; omega)
      have hO2 : OSt (w.setCell ⟨db, dO + i, none⟩ (.int .i64 v)) lo hi A s.flash (some ⟨db, dO, none⟩) (s.disk.set i v) :=
        ⟨hs, hBk.keep fun y hy hl => hW.agr.block y hl (by
          rintro rfl
          rcases hy with hy | ⟨z, hz, hy⟩
          · exact hdb.2.2.1 hy
          · obtain ⟨j, hj⟩ := List.getElem?_of_mem hz
            exact hdb.2.2.2 j z hj hy), hApt, hR2, HDJ.out⟩
      have hA2 : Agr (fun y => lo ≤ y ∧ y < hi) w (w.setCell ⟨db, dO + i, none⟩ (.int .i64 v)) := hW.agr.mono fun y e => by rw [e]; exact ⟨hdb.1, hdb.2.1⟩
      have e1 : IntKind.i64.wrap ((i : Int) + 1 - 1) = i := by rw [show (i : Int) + 1 - 1 = i by omega]; exact IntWalk.i64_in _ (by omega)
      have e2 : IntKind.i64.wrap (i : Int) = i := IntWalk.i64_in _ (by omega)
      have HU := Lib.hid hu
      have m1 : db < w.heap.size + 1 := by omega
      have m2 : db < w.heap.size + 1 + 1 := by omega
      have n0 : db ≠ w.heap.size := by omega
      have n0' : w.heap.size ≠ db := by omega
      have n1 : db ≠ w.heap.size + 1 := by omega
      have n1' : w.heap.size + 1 ≠ db := by omega
      have n2 : db ≠ w.heap.size + 1 + 1 := by omega
      have n2' : w.heap.size + 1 + 1 ≠ db := by omega
      clear hu hW hsf hsd hsv hfin hdj
      go_enter Tryz.func36, Tryz.ntmps36
      go_wp2
      refine bodyPost_ret (v := .agg #[.slice A 4 c, .slice (some ⟨db, dO, none⟩) 6 d]) (by simp [results, Tryz.results36, go_sem]) rfl ⟨rfl, ?_, ?_⟩
      · rw [h3.out]; exact ((hO2.alloc' _).alloc' _).alloc' _
      · exact ((hA2.alloc _).alloc _).alloc _
    · have h3 : Hid (doStep s ⟨1, i + 1, v, b, rc⟩ true = s) := by rw [Hid, hfin.out, if_pos rfl]; rfl
      clear hsf hsd hsv hfin hdj
      go_enter Tryz.func36, Tryz.ntmps36
      go_wp2
      refine bodyPost_ret (v := .agg #[.slice A 4 c, .slice (some ⟨db, dO, none⟩) 6 d]) (by simp [results, Tryz.results36, go_sem]) rfl ⟨rfl, ?_, ?_⟩
      · rw [h3.out]; exact ((hOS.out.alloc' _).alloc' _).alloc' _
      · exact (((Agr.refl _ _).alloc _).alloc _).alloc _
  · have hi4s : ∀ y ∈ s.flash, y.pages.length = 4 ∧ 0 ≤ y.worn ∧ y.worn ≤ 200 := fun y hy => ⟨(hsf.2 y hy).1, (hsf.2 y hy).2.1, (hsf.2 y hy).2.2.1⟩
    have hi4p : ∀ y ∈ s.flash, y.pages.length = 4 := fun y hy => (hsf.2 y hy).1
    have HS4 := Lib.hid hi4s
    have HP4 := Lib.hid hi4p
    clear hi4s hi4p
    by_cases h2 : k = 2
    · subst h2
      have hb := hx2 (.inl rfl)
      obtain ⟨hb1, hb2⟩ := hb
      obtain ⟨i, rfl⟩ := Int.eq_ofNat_of_zero_le hb1
      have hi4 : i < 4 := by omega
      obtain ⟨g, o, rfl⟩ := hBk.addr (by intro e; have := hsf.1; rw [e] at this; simp at this)
      have h3 : Hid (doStep s ⟨2, a, v, i, rc⟩ torn = { s with flash := (wipeR s.flash i torn).1 }) := by
        rw [Hid, hfin.out, if_neg (by omega), if_pos rfl, Int.toNat_natCast]
      obtain ⟨W, hW⟩ : ∃ W, W = ((w.alloc (.cells #[.slice (some ⟨g, o, none⟩) 4 c, .slice (some ⟨db, dO, none⟩) 6 d] 27)).alloc (.cells #[.int .i64 2, .int .i64 a, .int .i64 v, .int .i64 i, .int .i64 rc.kind, .int .i64 rc.seq, .int .i64 rc.addr, .int .i64 rc.val] 66)).alloc (.cells #[.slice none 0 0, .slice none 0 0] 27) := ⟨_, rfl⟩
      have hBkW : Bks W (some ⟨g, o, none⟩) s.flash hs := by rw [hW]; exact ((hBk.alloc _).alloc _).alloc _
      have hRW : Row W (some ⟨db, dO, none⟩) (ints s.disk) := by rw [hW]; exact ((hR.alloc _).alloc _).alloc _
      have hAW : Agr (fun y => lo ≤ y ∧ y < hi) w W := by rw [hW]; exact (((Agr.refl _ _).alloc _).alloc _).alloc _
      have b0 : W.cell? ⟨w.heap.size, 0, none⟩ = some (.slice (some ⟨g, o, none⟩) 4 c) := by rw [hW]; exact cell3 (by simp)
      have b1 : W.cell? ⟨w.heap.size, 1, none⟩ = some (.slice (some ⟨db, dO, none⟩) 6 d) := by rw [hW]; exact cell3 (by simp)
      have b2 : W.frozen? ⟨w.heap.size, 0, none⟩ = false := by rw [hW]; exact fz3 (by simp)
      have q0 : W.cell? ⟨w.heap.size + 1 + 1, 0, none⟩ = some (.slice none 0 0) := by rw [hW]; exact ((top3 w _ _ #[.slice none 0 0, .slice none 0 0] 27).at0 (j := 0) rfl).1
      have q1 : W.cell? ⟨w.heap.size + 1 + 1, 1, none⟩ = some (.slice none 0 0) := by rw [hW]; exact ((top3 w _ _ #[.slice none 0 0, .slice none 0 0] 27).at0 (j := 1) rfl).1
      have q2 : W.frozen? ⟨w.heap.size + 1 + 1, 0, none⟩ = false := by rw [hW]; exact ((top3 w _ _ #[.slice none 0 0, .slice none 0 0] 27).at0 (j := 0) rfl).2
      have q3 : W.frozen? ⟨w.heap.size + 1 + 1, 1, none⟩ = false := by rw [hW]; exact ((top3 w _ _ #[.slice none 0 0, .slice none 0 0] 27).at0 (j := 1) rfl).2
      have hWs : W.heap.size = w.heap.size + 1 + 1 + 1 := by rw [hW]; simp
      have HW := Lib.hid hW
      have HSF := Lib.hid hsf
      clear hsf hsd hsv hfin hdj hW
      go_enter Tryz.func36, Tryz.ntmps36
      go_wp2_with fail
      rw [← HW.out]
      refine (spec_l2Wipe' s.flash i lo hi g o c torn _ HSF.out.1 HS4.out hi4 hs hBkW hApt).mono ?_
      rintro e w1 ⟨rfl, hBk1, hA1⟩
      have hnot : ∀ j, w.heap.size ≤ j → ¬ fblk (some ⟨g, o, none⟩) hs j := fun j hj h => by have := hApt.fblk h; omega
      replace b0 := (hA1.cell (by omega) (hnot _ (by omega)) 0).trans b0
      replace b1 := (hA1.cell (by omega) (hnot _ (by omega)) 1).trans b1
      replace b2 := (hA1.fz (by omega) (hnot _ (by omega)) 0).trans b2
      replace q0 := (hA1.cell (by omega) (hnot _ (by omega)) 0).trans q0
      replace q1 := (hA1.cell (by omega) (hnot _ (by omega)) 1).trans q1
      replace q2 := (hA1.fz (by omega) (hnot _ (by omega)) 0).trans q2
      replace q3 := (hA1.fz (by omega) (hnot _ (by omega)) 1).trans q3
      have hR1 : Row w1 (some ⟨db, dO, none⟩) (ints s.disk) := hRW.agr hA1 fun y hy hS => by
        rcases hS with h | ⟨j, z, hz, h⟩
        · exact (HDJ.out y hy).2.2.1 h
        · exact (HDJ.out y hy).2.2.2 j z hz h
      have hO1 : OSt w1 lo hi (some ⟨g, o, none⟩) (wipeR s.flash i torn).1 (some ⟨db, dO, none⟩) s.disk := ⟨hs, hBk1, hApt, hR1, HDJ.out⟩
      have hA2 : Agr (fun y => lo ≤ y ∧ y < hi) w w1 := hAW.trans hA1 fun y _ hy => hApt.fblk hy
      have hs1 := hA1.size
      clear hA1 hBk1 hR1 hRW hBkW hAW hnot
      go_wp2
      refine bodyPost_ret (v := .agg #[.slice (some ⟨g, o, none⟩) 4 c, .slice (some ⟨db, dO, none⟩) 6 d]) (by simp [results, Tryz.results36, go_sem, b0, b1, q0, q1]) rfl ⟨rfl, ?_, ?_⟩
      · rw [h3.out]
        have hbb : Below w.heap.size w1 (((w1.setCell ⟨w.heap.size, 0, none⟩ (.slice (some ⟨g, o, none⟩) 4 c)).setCell ⟨w.heap.size + 1 + 1, 0, none⟩ (.slice (some ⟨g, o, none⟩) 4 c)).setCell ⟨w.heap.size + 1 + 1, 1, none⟩ (.slice (some ⟨db, dO, none⟩) 6 d)) := by (repeat (first | (with_reducible exact Below.refl _ _) | (with_reducible assumption) | (refine Below.setCell ?_ (by first | omega | exact hB.size | exact hb.size | (have h := hB.size; simp; omega) | (have h := hb.size; simp; omega) | (simp; omega) | simp) _) | (refine Below.alloc ?_ (by first | omega | exact hB.size | exact hb.size | (have h := hB.size; simp; omega) | (have h := hb.size; simp; omega) | (simp; omega) | simp) _) | (refine Below.drew ?_)))
        exact hO1.keep fun y _ h2 _ => hbb.block y (by omega)
      · exact ((hA2.setCell (.inl (by simp)) _).setCell (.inl (by show w.heap.size ≤ w.heap.size + 1 + 1; omega)) _).setCell (.inl (by show w.heap.size ≤ w.heap.size + 1 + 1; omega)) _
    · by_cases h4 : k = 3
      · subst h4
        have hb := hx2 (.inr rfl)
        obtain ⟨hb1, hb2⟩ := hb
        obtain ⟨i, rfl⟩ := Int.eq_ofNat_of_zero_le hb1
        have hi4 : i < 4 := by omega
        obtain ⟨g, o, rfl⟩ := hBk.addr (by intro e; have := hsf.1; rw [e] at this; simp at this)
        have h3 : Hid (doStep s ⟨3, a, v, i, rc⟩ torn = { s with flash := (writeR s.flash i rc torn).1 }) := by
          rw [Hid, hfin.out, if_neg (by omega), if_neg (by omega), if_pos rfl, Int.toNat_natCast]
        obtain ⟨W, hW⟩ : ∃ W, W = ((w.alloc (.cells #[.slice (some ⟨g, o, none⟩) 4 c, .slice (some ⟨db, dO, none⟩) 6 d] 27)).alloc (.cells #[.int .i64 3, .int .i64 a, .int .i64 v, .int .i64 i, .int .i64 rc.kind, .int .i64 rc.seq, .int .i64 rc.addr, .int .i64 rc.val] 66)).alloc (.cells #[.slice none 0 0, .slice none 0 0] 27) := ⟨_, rfl⟩
        have hBkW : Bks W (some ⟨g, o, none⟩) s.flash hs := by rw [hW]; exact ((hBk.alloc _).alloc _).alloc _
        have hRW : Row W (some ⟨db, dO, none⟩) (ints s.disk) := by rw [hW]; exact ((hR.alloc _).alloc _).alloc _
        have hAW : Agr (fun y => lo ≤ y ∧ y < hi) w W := by rw [hW]; exact (((Agr.refl _ _).alloc _).alloc _).alloc _
        have b0 : W.cell? ⟨w.heap.size, 0, none⟩ = some (.slice (some ⟨g, o, none⟩) 4 c) := by rw [hW]; exact cell3 (by simp)
        have b1 : W.cell? ⟨w.heap.size, 1, none⟩ = some (.slice (some ⟨db, dO, none⟩) 6 d) := by rw [hW]; exact cell3 (by simp)
        have b2 : W.frozen? ⟨w.heap.size, 0, none⟩ = false := by rw [hW]; exact fz3 (by simp)
        have q0 : W.cell? ⟨w.heap.size + 1 + 1, 0, none⟩ = some (.slice none 0 0) := by rw [hW]; exact ((top3 w _ _ #[.slice none 0 0, .slice none 0 0] 27).at0 (j := 0) rfl).1
        have q1 : W.cell? ⟨w.heap.size + 1 + 1, 1, none⟩ = some (.slice none 0 0) := by rw [hW]; exact ((top3 w _ _ #[.slice none 0 0, .slice none 0 0] 27).at0 (j := 1) rfl).1
        have q2 : W.frozen? ⟨w.heap.size + 1 + 1, 0, none⟩ = false := by rw [hW]; exact ((top3 w _ _ #[.slice none 0 0, .slice none 0 0] 27).at0 (j := 0) rfl).2
        have q3 : W.frozen? ⟨w.heap.size + 1 + 1, 1, none⟩ = false := by rw [hW]; exact ((top3 w _ _ #[.slice none 0 0, .slice none 0 0] 27).at0 (j := 1) rfl).2
        have hWs : W.heap.size = w.heap.size + 1 + 1 + 1 := by rw [hW]; simp
        have HW := Lib.hid hW
        have HSF := Lib.hid hsf
        clear hsf hsd hsv hfin hdj hW
        go_enter Tryz.func36, Tryz.ntmps36
        go_wp2_with fail
        rw [← HW.out]
        refine (spec_l2Write' s.flash i lo hi g o c rc torn _ HSF.out.1 HP4.out hi4 hs hBkW hApt).mono ?_
        rintro e w1 ⟨rfl, hBk1, hA1⟩
        have hnot : ∀ j, w.heap.size ≤ j → ¬ fblk (some ⟨g, o, none⟩) hs j := fun j hj h => by have := hApt.fblk h; omega
        replace b0 := (hA1.cell (by omega) (hnot _ (by omega)) 0).trans b0
        replace b1 := (hA1.cell (by omega) (hnot _ (by omega)) 1).trans b1
        replace b2 := (hA1.fz (by omega) (hnot _ (by omega)) 0).trans b2
        replace q0 := (hA1.cell (by omega) (hnot _ (by omega)) 0).trans q0
        replace q1 := (hA1.cell (by omega) (hnot _ (by omega)) 1).trans q1
        replace q2 := (hA1.fz (by omega) (hnot _ (by omega)) 0).trans q2
        replace q3 := (hA1.fz (by omega) (hnot _ (by omega)) 1).trans q3
        have hR1 : Row w1 (some ⟨db, dO, none⟩) (ints s.disk) := hRW.agr hA1 fun y hy hS => by
          rcases hS with h | ⟨j, z, hz, h⟩
          · exact (HDJ.out y hy).2.2.1 h
          · exact (HDJ.out y hy).2.2.2 j z hz h
        have hO1 : OSt w1 lo hi (some ⟨g, o, none⟩) (writeR s.flash i rc torn).1 (some ⟨db, dO, none⟩) s.disk := ⟨hs, hBk1, hApt, hR1, HDJ.out⟩
        have hA2 : Agr (fun y => lo ≤ y ∧ y < hi) w w1 := hAW.trans hA1 fun y _ hy => hApt.fblk hy
        have hs1 := hA1.size
        clear hA1 hBk1 hR1 hRW hBkW hAW hnot
        go_wp2
        refine bodyPost_ret (v := .agg #[.slice (some ⟨g, o, none⟩) 4 c, .slice (some ⟨db, dO, none⟩) 6 d]) (by simp [results, Tryz.results36, go_sem, b0, b1, q0, q1]) rfl ⟨rfl, ?_, ?_⟩
        · rw [h3.out]
          have hbb : Below w.heap.size w1 (((w1.setCell ⟨w.heap.size, 0, none⟩ (.slice (some ⟨g, o, none⟩) 4 c)).setCell ⟨w.heap.size + 1 + 1, 0, none⟩ (.slice (some ⟨g, o, none⟩) 4 c)).setCell ⟨w.heap.size + 1 + 1, 1, none⟩ (.slice (some ⟨db, dO, none⟩) 6 d)) := by (repeat (first | (with_reducible exact Below.refl _ _) | (with_reducible assumption) | (refine Below.setCell ?_ (by first | omega | exact hB.size | exact hb.size | (have h := hB.size; simp; omega) | (have h := hb.size; simp; omega) | (simp; omega) | simp) _) | (refine Below.alloc ?_ (by first | omega | exact hB.size | exact hb.size | (have h := hB.size; simp; omega) | (have h := hb.size; simp; omega) | (simp; omega) | simp) _) | (refine Below.drew ?_)))
          exact hO1.keep fun y _ h2 _ => hbb.block y (by omega)
        · exact ((hA2.setCell (.inl (by simp)) _).setCell (.inl (by show w.heap.size ≤ w.heap.size + 1 + 1; omega)) _).setCell (.inl (by show w.heap.size ≤ w.heap.size + 1 + 1; omega)) _
      · have h3 : Hid (doStep s ⟨k, a, v, b, rc⟩ torn = s) := by rw [Hid, hfin.out, if_neg h1, if_neg h2, if_neg h4]
        have e1 : (k == 1) = false := by simp [h1]
        have e2 : (k == 2) = false := by simp [h2]
        have e3 : (k == 3) = false := by simp [h4]
        clear hsf hsd hsv hfin hdj
        go_enter Tryz.func36, Tryz.ntmps36
        go_wp2
        refine bodyPost_ret (v := .agg #[.slice A 4 c, .slice (some ⟨db, dO, none⟩) 6 d]) (by simp [results, Tryz.results36, go_sem]) rfl ⟨rfl, ?_, ?_⟩
        · rw [h3.out]; exact ((hOS.out.alloc' _).alloc' _).alloc' _
        · exact (((Agr.refl _ _).alloc _).alloc _).alloc _
end Go.Proofs.YtohkoogmbfaceaaGreat
namespace Go.Proofs.YtohkoogmbfaceaaGreat
set_option linter.unusedVariables false
set_option linter.unusedSimpArgs false
open Go.RowKit
def OnlyNormal (K : Act → World → Prop) : Exit → Act → World → Prop
  | .normal, a, w => K a w
  | _, _, _ => False
def noDefer (o : Oper) : Bool := match o.op with
  | .defer _ => false
  | _ => true
theorem noDefer_spec {o : Oper} (h : noDefer o = true) : ∀ c, o.op ≠ .defer c := fun c e => by
  unfold noDefer at h; rw [e] at h; cases h
section
variable {P : Program} {ops : Array Oper} {md : Region.Mode} {K : Act → World → Prop} {Q : Exit → Act → World → Prop} {l n : Nat}
theorem op_round {i : Nat} {K1 K2 : Act → World → Prop} {a : Act} {w : World} (hnd : ops.all noDefer = true) (hK : ∀ a w, K1 a w → K2 a w) (h : wpOp P ops (OnlyNormal K) i K1 a w) :
    wpOpIn (Fence.wide.inRound l) n P ops Q i K2 a w := by
  unfold wpOp at h
  unfold wpOpIn
  cases ho : ops[i]? with
  | none => simp only [ho] at h ⊢; exact hK _ _ h
  | some o =>
    simp only [ho] at h ⊢
    have hd : ∀ c, o.op ≠ .defer c := noDefer_spec (by
      rw [Array.all_eq_true'] at hnd
      exact hnd o (Array.mem_of_getElem? ho))
    split
    · rename_i hw
      simp only [hw, if_true] at h
      rcases h with h | ⟨_, _, _, h⟩
      · unfold Oper.wp at h
        refine ⟨fun _ _ => trivial, ?_⟩
        rw [Oper.semAt_eq _ _ _ hd]
        generalize (execOp a.eval o).run P w = r at h
        cases r with
        | ok nx w' =>
          cases nx with
          | value v => exact hK _ _ h
          | skip => exact hK _ _ h
          | defer d => exact hK _ _ h
          | enter f args =>
            refine ⟨fun hd => (by cases hd), ?_⟩
            refine (callsIn_wide.2 (Calls.mono (R := fun | .returned v, w'' => K1 (a.put o.dst v) w'' | .panicked chain, w'' => OnlyNormal K (.panic chain) a w'' | .outgrown, _ => LetsOut (OnlyNormal K)) h fun e w'' he => ?_)).inRound l
            cases e with
            | returned v => exact hK _ _ he
            | panicked c => exact he.elim
            | outgrown => obtain ⟨_, _, hf⟩ := he; exact hf.elim
          | row row args => exact ⟨fun hd => (by cases hd), fun c cs _ => by
              obtain ⟨v, w'', r, s⟩ := h c cs
              exact ⟨v, w'', hK _ _ r, stepsIn_wide.2 s⟩⟩
          | round _ _ _ _ _ => exact h.elim
          | _ => exact h.elim
        | halt hh w' =>
          cases hh with
          | panic v => exact h.elim
          | _ => exact h.elim
      · exact h.elim
    · rename_i hw
      simp only [hw] at h
      exact ⟨fun _ _ => trivial, hK _ _ h⟩
theorem any_round (hnd : ops.all noDefer = true) (hQ : ∀ a w, K a w → Q .normal a w) : ∀ (fuel : Nat) (listed : Array Bool) (a : Act) (w : World), wpAny P md ops (OnlyNormal K) fuel listed a w → wpAnyIn (Fence.wide.inRound l) n P md ops Q fuel listed a w
  | 0, _, _, _, h => ⟨h.1, hQ _ _ h.2⟩
  | fuel + 1, listed, a, w, h => ⟨fun e => hQ _ _ (h.1 e), fun i hi => op_round hnd (fun a w => any_round hnd hQ fuel _ a w) (h.2 i hi)⟩
/-- a region in a round, by the plain law of any order -/
theorem region_round {id : Nat} {a : Act} {w : World} (hm : P.follows .mixedOrders = true) (hnd : ops.all noDefer = true)
    (h : wpAny P .any ops (OnlyNormal fun a w => Q .normal a w) ops.size (Array.replicate ops.size false) a w.drew) : (Code.region id ops true).wpIn (Fence.wide.inRound l) n P Q a w :=
  wpIn_region_any hm (any_round hnd (fun _ _ h => h) _ _ _ _ h)
/-- the same, by the law with a condition on the world -/
theorem region_round_held {S : World → Prop} {id : Nat} {a : Act} {w : World} (hm : P.follows .mixedOrders = true) (hnd : ops.all noDefer = true) (hS : S w.drew)
    (h : S w.drew → wpAnyH P .any ops (OnlyNormal fun a w => Q .normal a w) S ops.size (Array.replicate ops.size false) a w.drew) : (Code.region id ops true).wpIn (Fence.wide.inRound l) n P Q a w :=
  region_round hm hnd (wpAny_of_held _ _ _ _ (h hS))
end
end Go.Proofs.YtohkoogmbfaceaaGreat
