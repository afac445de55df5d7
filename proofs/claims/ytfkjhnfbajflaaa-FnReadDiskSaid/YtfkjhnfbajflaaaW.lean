/- Words: how the program's data lie in memory, and what writes and new blocks do to them. Plain functions: what the program's functions answer. Words: a flash in memory (a row of blocks, each with a row of pages); who owns which blocks. Words: a map of whole numbers, and one of records, that the call makes. -/
import Derived.WalkKit
import Derived.KernelRfl
import Derived.Below
import Derived.Deep.Draws
import Derived.Lib.Hide
import Derived.Laws.IdiomCopy
import Derived.Maps.OwnOps
import Derived.Maps.OwnSet
import Derived.Maps.Views
namespace Go.Proofs.Ytfkjhnfbajflaaa
set_option linter.unusedVariables false
set_option linter.unusedSimpArgs false
open Go.RowKit

/-! ### plain data -/
structure Rc where
  kind : Int
  seq : Int
  addr : Int
  val : Int
deriving DecidableEq, Repr
structure Pg where
  state : Int
  rc : Rc
deriving DecidableEq, Repr
structure Bk where
  pages : List Pg
  worn : Int
deriving DecidableEq, Repr
structure St where
  flash : List Bk
  disk : List Int
deriving DecidableEq, Repr
structure Sp where
  kind : Int
  addr : Int
  val : Int
  block : Int
  rc : Rc
deriving DecidableEq, Repr
structure Ev where
  kind : Int
  a : Int
  b : Int
  c : Int
  torn : Bool
deriving DecidableEq, Repr

def Rc.vs (r : Rc) : List Value := [.int .i64 r.kind, .int .i64 r.seq, .int .i64 r.addr, .int .i64 r.val]
def Pg.vs (p : Pg) : List Value := [.int .i64 p.state, .int .i64 p.rc.kind, .int .i64 p.rc.seq, .int .i64 p.rc.addr, .int .i64 p.rc.val]
def Sp.vs (s : Sp) : List Value := [.int .i64 s.kind, .int .i64 s.addr, .int .i64 s.val, .int .i64 s.block, .int .i64 s.rc.kind, .int .i64 s.rc.seq, .int .i64 s.rc.addr, .int .i64 s.rc.val]
def Ev.vs (e : Ev) : List Value := [.int .i64 e.kind, .int .i64 e.a, .int .i64 e.b, .int .i64 e.c, .bool e.torn]
def pgs (ps : List Pg) : List Value := ps.flatMap Pg.vs
def sps (ss : List Sp) : List Value := ss.flatMap Sp.vs
def evs (es : List Ev) : List Value := es.flatMap Ev.vs
def ints (xs : List Int) : List Value := xs.map (Value.int .i64)
def rc0 : Rc := ⟨0, 0, 0, 0⟩

/-! ### small things -/
theorem ret_bool {a b : Bool} (h : a = b) : Ending.returned (.bool a) = .returned (.bool b) := by rw [h]
theorem ret_int {a b : Int} (h : a = b) : Ending.returned (.int .i64 a) = .returned (.int .i64 b) := by rw [h]
theorem ret_sl {A : Option Addr} {n m c : Nat} {b : Bool} (h : n = m) : Ending.returned (.tuple #[.slice A n c, .bool b]) = .returned (.tuple #[.slice A m c, .bool b]) := by rw [h]
theorem ret_s {A : Option Addr} {n m c : Nat} (h : n = m) : Ending.returned (.slice A n c) = .returned (.slice A m c) := by rw [h]
theorem drop_cons {α : Type} {l : List α} {k : Nat} {x : α} (h : l[k]? = some x) : l.drop k = x :: l.drop (k + 1) := by
  obtain ⟨hlt, rfl⟩ := List.getElem?_eq_some_iff.1 h
  exact List.drop_eq_getElem_cons hlt
theorem get_some {α : Type} {l : List α} {k : Nat} (h : k < l.length) : ∃ x, l[k]? = some x := ⟨_, List.getElem?_eq_getElem h⟩
theorem flat_get {α : Type} (g : α → List Value) (m : Nat) (hg : ∀ x, (g x).length = m) : ∀ (l : List α) (k j : Nat) (x : α), l[k]? = some x → j < m → (l.flatMap g)[k * m + j]? = (g x)[j]?
  | [], _, _, _, h, _ => by simp at h
  | y :: l, 0, j, x, h, hj => by
    simp at h; subst h
    simp only [List.flatMap_cons, Nat.zero_mul, Nat.zero_add]
    rw [List.getElem?_append_left (by rw [hg]; exact hj)]
  | y :: l, k + 1, j, x, h, hj => by
    simp only [List.flatMap_cons]
    rw [List.getElem?_append_right (by rw [hg, Nat.succ_mul]; omega), hg, show (k + 1) * m + j - m = k * m + j by rw [Nat.succ_mul]; omega]
    exact flat_get g m hg l k j x (by simpa using h) hj
theorem flat_len {α : Type} (g : α → List Value) (m : Nat) (hg : ∀ x, (g x).length = m) : ∀ l : List α, (l.flatMap g).length = l.length * m
  | [] => by simp
  | y :: l => by simp only [List.flatMap_cons, List.length_append, hg, List.length_cons, flat_len g m hg l, Nat.succ_mul]; omega
theorem pgs_len (l : List Pg) : (pgs l).length = l.length * 5 := flat_len _ 5 (fun _ => rfl) l
theorem sps_len (l : List Sp) : (sps l).length = l.length * 8 := flat_len _ 8 (fun _ => rfl) l
theorem evs_len (l : List Ev) : (evs l).length = l.length * 5 := flat_len _ 5 (fun _ => rfl) l
theorem ints_len (l : List Int) : (ints l).length = l.length := by simp [ints]

/-! ### worlds: what may have turned -/
/-- of what lay in w, only blocks in S may have turned -/
structure Agr (S : Nat → Prop) (w w' : World) : Prop where
  os : w'.os = w.os
  tape : w'.tape = w.tape
  output : w'.output = w.output
  size : w.heap.size ≤ w'.heap.size
  block : ∀ k, k < w.heap.size → ¬ S k → w'.heap[k]? = w.heap[k]?
theorem Agr.refl (S : Nat → Prop) (w : World) : Agr S w w := ⟨rfl, rfl, rfl, Nat.le_refl _, fun _ _ _ => rfl⟩
theorem Agr.trans {S S' : Nat → Prop} {a b c : World} (h : Agr S a b) (k : Agr S' b c) (hs : ∀ i, i < a.heap.size → S' i → S i) : Agr S a c :=
  ⟨k.os.trans h.os, k.tape.trans h.tape, k.output.trans h.output, Nat.le_trans h.size k.size, fun i hi hn => (k.block i (Nat.lt_of_lt_of_le hi h.size) (fun x => hn (hs i hi x))).trans (h.block i hi hn)⟩
theorem Agr.of_below {S : Nat → Prop} {a b : World} (h : Below a.heap.size a b) : Agr S a b := ⟨h.os, h.tape, h.output, h.size, fun i hi _ => h.block i hi⟩
theorem Agr.mono {S S' : Nat → Prop} {a b : World} (h : Agr S a b) (hs : ∀ i, S i → S' i) : Agr S' a b := ⟨h.os, h.tape, h.output, h.size, fun i hi hn => h.block i hi (fun x => hn (hs i x))⟩
theorem Agr.below {S : Nat → Prop} {a b : World} {B : Nat} (h : Agr S a b) (hB : B ≤ a.heap.size) (hs : ∀ i, S i → B ≤ i) : Below B a b :=
  ⟨h.os, h.tape, h.output, h.size, fun i hi => h.block i (by omega) (fun x => by have := hs i x; omega)⟩
theorem Agr.alloc {S : Nat → Prop} {a w : World} (h : Agr S a w) (o : Obj) : Agr S a (w.alloc o) :=
  ⟨h.os, h.tape, h.output, Nat.le_trans h.size (by simp), fun i hi hn => (Below.heap_alloc w o i (Nat.lt_of_lt_of_le hi h.size)).trans (h.block i hi hn)⟩
theorem Agr.drew {S : Nat → Prop} {a w : World} (h : Agr S a w) : Agr S a w.drew := ⟨h.os, h.tape, h.output, h.size, h.block⟩
theorem Agr.drewN {S : Nat → Prop} {a w : World} (h : Agr S a w) (n : Nat) : Agr S a (w.drewN n) := ⟨h.os, h.tape, h.output, h.size, h.block⟩
theorem Agr.setCell {S : Nat → Prop} {a w : World} (h : Agr S a w) {p : Addr} (hp : a.heap.size ≤ p.block ∨ S p.block) (u : Value) : Agr S a (w.setCell p u) :=
  ⟨h.os, h.tape, h.output, by simpa [World.setCell] using h.size, fun i hi hn => (Below.heap_setCell w p u i (by
    rintro rfl
    rcases hp with hp | hp
    · omega
    · exact hn hp)).trans (h.block i hi hn)⟩
theorem Agr.grown {S : Nat → Prop} {a w w' : World} {row : Option Nat} (h : Agr S a w) (hg : w.grownBy w' row) (hr : ∀ g, row = some g → a.heap.size ≤ g ∨ S g) : Agr S a w' :=
  ⟨hg.os.trans h.os, hg.tape.trans h.tape, hg.output.trans h.output, Nat.le_trans h.size hg.size, fun i hi hn => (hg.block i (Nat.lt_of_lt_of_le hi h.size) (fun e => by
    rcases hr i e.symm with hp | hp
    · omega
    · exact hn hp)).trans (h.block i hi hn)⟩

theorem Agr.cell {S : Nat → Prop} {a w : World} (h : Agr S a w) {b : Nat} (hb : b < a.heap.size) (hs : ¬ S b) (i : Nat) : w.cell? ⟨b, i, none⟩ = a.cell? ⟨b, i, none⟩ := World.cell?_of_block (a := ⟨b, i, none⟩) (h.block b hb hs)
theorem Agr.fz {S : Nat → Prop} {a w : World} (h : Agr S a w) {b : Nat} (hb : b < a.heap.size) (hs : ¬ S b) (i : Nat) : w.frozen? ⟨b, i, none⟩ = a.frozen? ⟨b, i, none⟩ := World.frozen?_of_block (a := ⟨b, i, none⟩) (h.block b hb hs)

theorem undrew {w w' : World} (h : Below w.drew.heap.size w.drew w') : Below w.heap.size w w' := ⟨h.os, h.tape, h.output, h.size, h.block⟩
theorem undrewN {n : Nat} {w w' : World} (h : Below (w.drewN n).heap.size (w.drewN n) w') : Below w.heap.size w w' := ⟨h.os, h.tape, h.output, h.size, h.block⟩

theorem bcell {W w1 : World} (hb : Below W.heap.size W w1) : (∀ b o, b < W.heap.size → w1.cell? ⟨b, o, none⟩ = W.cell? ⟨b, o, none⟩) ∧ (∀ b o, b < W.heap.size → w1.frozen? ⟨b, o, none⟩ = W.frozen? ⟨b, o, none⟩) :=
  ⟨fun b o h => hb.cell (p := ⟨b, o, none⟩) h, fun b o h => hb.frozen (p := ⟨b, o, none⟩) h⟩

/-! ### a row of cells -/
/-- the cells vs lie at A, none frozen -/
def Row (w : World) (A : Option Addr) (vs : List Value) : Prop :=
  vs ≠ [] → ∃ b o, A = some ⟨b, o, none⟩ ∧ ∀ j u, vs[j]? = some u → w.cell? ⟨b, o + j, none⟩ = some u ∧ w.frozen? ⟨b, o + j, none⟩ = false
/-- the block of an address -/
def blk (A : Option Addr) (b : Nat) : Prop := A.map Addr.block = some b
theorem blk_some {b o c : Nat} : blk (some ⟨b, o, none⟩) c ↔ b = c := by simp [blk]
theorem lt_of_cell {w : World} {b o : Nat} {u : Value} (h : w.cell? ⟨b, o, none⟩ = some u) : b < w.heap.size := by
  have := World.block_lt_of_cell? (w := w) (a := ⟨b, o, none⟩) (h := h)
  exact this
theorem Row.nil (w : World) (A : Option Addr) : Row w A [] := fun h => absurd rfl h
theorem Row.keep {w w' : World} {A : Option Addr} {vs : List Value} (h : Row w A vs) (hk : ∀ b, blk A b → b < w.heap.size → w'.heap[b]? = w.heap[b]?) : Row w' A vs := fun hn => by
  obtain ⟨b, o, rfl, hc⟩ := h hn
  refine ⟨b, o, rfl, fun j u hj => ?_⟩
  obtain ⟨h1, h2⟩ := hc j u hj
  have hb := hk b rfl (lt_of_cell h1)
  exact ⟨(World.cell?_of_block (a := ⟨b, o + j, none⟩) hb).trans h1, (World.frozen?_of_block (a := ⟨b, o + j, none⟩) hb).trans h2⟩
theorem Row.below {w w' : World} {A : Option Addr} {vs : List Value} {B : Nat} (h : Row w A vs) (hb : Below B w w') (hB : w.heap.size ≤ B) : Row w' A vs :=
  h.keep fun b _ hl => hb.block b (by omega)
theorem Row.agr {w w' : World} {A : Option Addr} {vs : List Value} {S : Nat → Prop} (h : Row w A vs) (hb : Agr S w w') (hS : ∀ b, blk A b → ¬ S b) : Row w' A vs :=
  h.keep fun b hA hl => hb.block b hl (hS b hA)
theorem Row.alloc {w : World} {A : Option Addr} {vs : List Value} (h : Row w A vs) (o : Obj) : Row (w.alloc o) A vs := h.keep fun b _ hl => Below.heap_alloc w o b hl
theorem Row.new (w : World) (cs : Array Value) (t : TypeId) : Row (w.alloc (.cells cs t)) (some ⟨w.heap.size, 0, none⟩) cs.toList := fun _ =>
  ⟨_, _, rfl, fun j u hj => ⟨by simpa using hj, by simp⟩⟩
theorem Row.drew {w : World} {A : Option Addr} {vs : List Value} (h : Row w A vs) : Row w.drew A vs := h
theorem Row.drewN {w : World} {A : Option Addr} {vs : List Value} (h : Row w A vs) (n : Nat) : Row (w.drewN n) A vs := h
theorem Row.at_ {w : World} {A : Option Addr} {vs : List Value} (h : Row w A vs) (hn : vs ≠ []) : ∃ b o, A = some ⟨b, o, none⟩ ∧ ∀ j u, vs[j]? = some u → w.cell? ⟨b, o + j, none⟩ = some u ∧ w.frozen? ⟨b, o + j, none⟩ = false := h hn
theorem Row.lt {w : World} {A : Option Addr} {vs : List Value} (h : Row w A vs) (hn : vs ≠ []) {b : Nat} (hb : blk A b) : b < w.heap.size := by
  obtain ⟨b', o, rfl, hc⟩ := h hn
  cases hb
  cases vs with
  | nil => exact absurd rfl hn
  | cons v vs => exact lt_of_cell (hc 0 v rfl).1
theorem Row.of_own {w : World} {base n : Nat} {e : TypeId} {size c : Nat} {A : Option Addr} {vs : List Value} (h : w.ownsRow base e size (.slice A n c) n vs) : Row w A vs := fun hn => by
  obtain ⟨hl, ⟨hv, _⟩ | ⟨g, cap, cur, hv, hb, hh, hnc, hm, hs, ht⟩⟩ := h
  · rename_i hz
    subst hz
    exact absurd (List.eq_nil_of_length_eq_zero (by rw [hl, Nat.zero_mul])) hn
  · cases hv
    refine ⟨g, 0, rfl, fun j u hj => ?_⟩
    rw [← ht] at hj
    have hj' : cur.toList[j]? = some u := by
      rw [List.getElem?_take] at hj
      split at hj
      · exact hj
      · cases hj
    constructor
    · simp only [World.cell?, hh, Nat.zero_add]
      simpa using hj'
    · simp [World.frozen?, hh]

/-! ### writing into a row -/
/-- the cells from ⟨b, o⟩ on now hold vs; all else is as it was -/
structure Wrote (w w' : World) (b o : Nat) (vs : List Value) : Prop where
  os : w'.os = w.os
  tape : w'.tape = w.tape
  output : w'.output = w.output
  size : w'.heap.size = w.heap.size
  block : ∀ k, k ≠ b → w'.heap[k]? = w.heap[k]?
  new_ : ∀ j u, vs[j]? = some u → w'.cell? ⟨b, o + j, none⟩ = some u
  old_ : ∀ k, (k < o ∨ o + vs.length ≤ k) → w'.cell? ⟨b, k, none⟩ = w.cell? ⟨b, k, none⟩
  frozen : ∀ a, w'.frozen? a = w.frozen? a
theorem wrote_setRow (b : Nat) : ∀ (vs : List Value) (o : Nat) (w : World), (∀ j, j < vs.length → ∃ u, w.cell? ⟨b, o + j, none⟩ = some u) → Wrote w (w.setCells b o vs) b o vs
  | [], o, w, _ => ⟨rfl, rfl, rfl, rfl, fun _ _ => rfl, fun j u h => by simp at h, fun _ _ => rfl, fun _ => rfl⟩
  | v :: vs, o, w, h => by
    have h0 : ∃ u, w.cell? ⟨b, o, none⟩ = some u := h 0 (by simp)
    have ho : ∀ k, k ≠ o → (w.setCell ⟨b, o, none⟩ v).cell? ⟨b, k, none⟩ = w.cell? ⟨b, k, none⟩ := fun k hk => World.cell?_setCell_other w ⟨b, o, none⟩ ⟨b, k, none⟩ v (fun e => hk (by injection e with _ e2 _; exact e2.symm))
    have ih := wrote_setRow b vs (o + 1) (w.setCell ⟨b, o, none⟩ v) (fun j hj => by
      obtain ⟨u, hu⟩ := h (j + 1) (by simp; omega)
      exact ⟨u, by rw [ho _ (by omega), ← hu]; congr 2; omega⟩)
    refine ⟨ih.os, ih.tape, ih.output, ih.size.trans (by simp), fun k hk => (ih.block k hk).trans (Below.heap_setCell w _ _ k hk), fun j u hj => ?_, fun k hk => ?_, fun a => (ih.frozen a).trans (World.frozen?_setCell _ _ _ _)⟩
    · cases j with
      | zero =>
        simp at hj; subst hj
        obtain ⟨u, hu⟩ := h0
        exact (ih.old_ o (.inl (by omega))).trans (World.cell?_setCell_same w _ _ hu)
      | succ j =>
        have := ih.new_ j u (by simpa using hj)
        rw [show o + (j + 1) = o + 1 + j by omega]; exact this
    · simp at hk
      refine (ih.old_ k (by omega)).trans (ho k (by omega))
theorem Wrote.agr {w w' : World} {b o : Nat} {vs : List Value} (h : Wrote w w' b o vs) : Agr (· = b) w w' := ⟨h.os, h.tape, h.output, by rw [h.size]; exact Nat.le_refl _, fun k _ hk => h.block k hk⟩
/-- a list after a part of it was written -/
def setL : List Value → Nat → List Value → List Value
  | xs, _, [] => xs
  | xs, q, v :: vs => setL (xs.set q v) (q + 1) vs
theorem setL_len : ∀ (vs xs : List Value) (q : Nat), (setL xs q vs).length = xs.length
  | [], _, _ => rfl
  | v :: vs, xs, q => by simp [setL, setL_len vs]
theorem setL_get : ∀ (vs xs : List Value) (q j : Nat), q + vs.length ≤ xs.length → (setL xs q vs)[j]? = if q ≤ j ∧ j < q + vs.length then vs[j - q]? else xs[j]?
  | [], xs, q, j, _ => by simp [setL]; omega
  | v :: vs, xs, q, j, h => by
    simp at h
    rw [setL, setL_get vs (xs.set q v) (q + 1) j (by simp; omega)]
    by_cases h1 : j = q
    · subst h1
      rw [if_neg (by omega), if_pos (by simp), List.getElem?_set_self (by omega), Nat.sub_self]
      rfl
    · by_cases h2 : q + 1 ≤ j ∧ j < q + 1 + vs.length
      · rw [if_pos h2, if_pos (by simp; omega), show j - q = (j - (q + 1)) + 1 by omega]; simp
      · rw [if_neg h2, if_neg (by simp; omega), List.getElem?_set_ne (by omega)]
theorem setL_right (a : List Value) : ∀ (vs xs : List Value) (q : Nat), setL (a ++ xs) (a.length + q) vs = a ++ setL xs q vs
  | [], _, _ => rfl
  | v :: vs, xs, q => by
    simp only [setL]
    rw [List.set_append_right _ _ (by omega), show a.length + q - a.length = q by omega, show a.length + q + 1 = a.length + (q + 1) by omega]
    exact setL_right a vs (xs.set q v) (q + 1)
theorem Wrote.row {w w' : World} {b o q : Nat} {vs xs : List Value} (h : Wrote w w' b (o + q) vs) (hr : Row w (some ⟨b, o, none⟩) xs) (hq : q + vs.length ≤ xs.length) :
    Row w' (some ⟨b, o, none⟩) (setL xs q vs) := fun hn => by
  have hne : xs ≠ [] := by
    intro e
    have := setL_len vs xs q
    rw [e] at this
    exact hn (by rw [e]; exact List.eq_nil_of_length_eq_zero (by simpa using this))
  obtain ⟨b', o', he, hc⟩ := hr hne
  cases he
  refine ⟨b, o, rfl, fun j u hj => ?_⟩
  have hjl : j < xs.length := by rw [← setL_len vs xs q]; exact (List.getElem?_eq_some_iff.1 hj).1
  have hfz : w.frozen? ⟨b, o + j, none⟩ = false := (hc j _ (List.getElem?_eq_getElem hjl)).2
  refine ⟨?_, (h.frozen _).trans hfz⟩
  rw [setL_get vs xs q j hq] at hj
  split at hj
  · rename_i h1
    have := h.new_ _ u hj
    rw [show o + j = o + q + (j - q) by omega]; exact this
  · exact (h.old_ _ (by omega)).trans (hc j u hj).1
/-- one cell was written; the next is as it was -/
theorem Wrote.more {w w' : World} {b o : Nat} {v u : Value} (h : Wrote w w' b o [v]) (hu : w.cell? ⟨b, o + 1, none⟩ = some u) : Wrote w w' b o [v, u] :=
  ⟨h.os, h.tape, h.output, h.size, h.block, fun j x hj => by
    match j, hj with
    | 0, hj => exact h.new_ 0 x hj
    | 1, hj => simp at hj; subst hj; exact (h.old_ _ (.inr (by simp))).trans hu, fun k hk => h.old_ k (by simp at hk ⊢; omega), h.frozen⟩
/-- .. the one ahead is as it was -/
theorem Wrote.less {w w' : World} {b o : Nat} {v u : Value} (h : Wrote w w' b (o + 1) [v]) (hu : w.cell? ⟨b, o, none⟩ = some u) : Wrote w w' b o [u, v] :=
  ⟨h.os, h.tape, h.output, h.size, h.block, fun j x hj => by
    match j, hj with
    | 0, hj => simp at hj; subst hj; exact (h.old_ _ (.inl (by simp))).trans hu
    | 1, hj => exact h.new_ 0 x hj, fun k hk => h.old_ k (by simp at hk ⊢; omega), h.frozen⟩
theorem wrote_one {w : World} {b o : Nat} {u : Value} (h : w.cell? ⟨b, o, none⟩ = some u) (v : Value) : Wrote w (w.setCell ⟨b, o, none⟩ v) b o [v] :=
  wrote_setRow b [v] o w fun j hj => by
    match j, hj with
    | 0, _ => exact ⟨u, h⟩
/-- a row in another block stays -/
theorem Wrote.far {w w' : World} {b o : Nat} {vs xs : List Value} {A : Option Addr} (h : Wrote w w' b o vs) (hr : Row w A xs) (hne : ¬ blk A b) : Row w' A xs :=
  hr.keep fun c hc _ => h.block c (fun e => hne (e ▸ hc))
/-- 'copy(dst, src)', elements of any number of cells -/
theorem run_copy_n {P : Program} (w : World) (dT sT ty elem : TypeId) (size b o dLen dCap : Nat) (a : Addr) (sLen sCap n : Nat) (cs : List Value)
    (hu : P.underlying dT = some (.slice elem)) (hs : (P.info? elem).map (·.size) = some size) (hn : Nat.min sLen dLen = n) (hl : cs.length = n * size)
    (hsrc : ∀ j v, cs[j]? = some v → w.cell? (a.add j) = some v) (hc : ∀ j, j < cs.length → (w.cell? ⟨b, o + j, none⟩).isSome = true) (hf : ∀ j, j < cs.length → w.frozen? ⟨b, o + j, none⟩ = false) (h1 : ∀ v ∈ cs, v.oneCell' = true) :
    (Builtin.copy_ #[dT, sT] ty #[.slice (some ⟨b, o, none⟩) dLen dCap, .slice (some a) sLen sCap]).run P w = .ok (goInt n) (w.setCells b o cs) := by
  have hl' := run_loadCells_list (P := P) w a cs hsrc
  have hst := run_storeCells_cells (P := P) b o cs 0 w (by simpa using hc) (by simpa using hf) h1
  cases hq : P.info? elem with
  | none => simp [hq] at hs
  | some i =>
    have hi : i.size = size := by simpa [hq] using hs
    simp [Builtin.copy_, run_underlying hu, Builtin.lenOf, Builtin.firstCells, sizeOf, typeInfo, hq, hi, hn, ← hl, hl', hst]
theorem addr_add (b o j : Nat) : (⟨b, o, none⟩ : Addr).add j = ⟨b, o + j, none⟩ := by unfold Addr.add; split <;> simp_all
end Go.Proofs.Ytfkjhnfbajflaaa
namespace Go.Proofs.Ytfkjhnfbajflaaa
set_option linter.unusedVariables false
set_option linter.unusedSimpArgs false
def addrB (a : Int) : Bool := decide (1 ≤ a) && decide (a ≤ 6)
def valB (a : Int) : Bool := decide (0 ≤ a) && decide (a ≤ 9)
def kindB (k : Int) : Bool := decide (k = 1) || decide (k = 2)
def recOk (r : Rc) : Bool := kindB r.kind && (decide (1 ≤ r.seq) && (decide (r.seq ≤ 600) && (addrB r.addr && valB r.val)))
def pageOk (p : Pg) : Bool := if p.state = 1 then recOk p.rc else if p.state = 0 ∨ p.state = 2 then decide (p.rc = rc0) else false
def blockB (b : Int) : Bool := decide (0 ≤ b) && decide (b < 4)
def shapeGo : Bool → List Pg → Bool
  | _, [] => true
  | free, p :: ps => if (free && (p.state != 0)) = true then false else shapeGo (p.state == 0) ps
def blockShape (b : Bk) : Bool := decide (b.pages.length = 4) && (decide (0 ≤ b.worn) && (decide (b.worn ≤ 200) && shapeGo false b.pages))
/-- the pages of a block, the numbers met so far; then what follows -/
def pagesGo : List Int → (List Int → Bool) → List Pg → Bool
  | seen, k, [] => k seen
  | seen, k, p :: ps => if pageOk p = false then false else if p.state ≠ 1 then pagesGo seen k ps else if p.rc.seq ∈ seen then false else pagesGo (p.rc.seq :: seen) k ps
def blocksGo : List Int → List Bk → Bool
  | _, [] => true
  | seen, b :: bs => if blockShape b = false then false else pagesGo seen (fun s => blocksGo s bs) b.pages
def flashOk (f : List Bk) : Bool := decide (f.length = 4) && blocksGo [] f
theorem pagesGo_true {k : List Int → Bool} : ∀ {ps : List Pg} {seen : List Int}, pagesGo seen k ps = true → (∃ s, k s = true) ∧ ∀ p ∈ ps, pageOk p = true
  | [], seen, h => ⟨⟨seen, h⟩, by simp⟩
  | p :: ps, seen, h => by
    unfold pagesGo at h
    by_cases h1 : pageOk p = false
    · simp [h1] at h
    · rw [if_neg h1] at h
      have h1' : pageOk p = true := by simpa using h1
      have key : ∀ s, pagesGo s k ps = true → (∃ s, k s = true) ∧ ∀ q ∈ p :: ps, pageOk q = true := fun s hs => by
        obtain ⟨a, b⟩ := pagesGo_true hs
        exact ⟨a, by intro q hq; rcases List.mem_cons.1 hq with rfl | hq; exact h1'; exact b q hq⟩
      by_cases h2 : p.state ≠ 1
      · rw [if_pos h2] at h; exact key _ h
      · rw [if_neg h2] at h
        by_cases h3 : p.rc.seq ∈ seen
        · simp [h3] at h
        · rw [if_neg h3] at h; exact key _ h
theorem blocksGo_true : ∀ {f : List Bk} {seen : List Int}, blocksGo seen f = true → ∀ b ∈ f, blockShape b = true ∧ ∀ p ∈ b.pages, pageOk p = true
  | [], _, _ => by simp
  | b :: f, seen, h => by
    unfold blocksGo at h
    by_cases h1 : blockShape b = false
    · simp [h1] at h
    · rw [if_neg h1] at h
      obtain ⟨⟨s, hs⟩, hp⟩ := pagesGo_true h
      have ih := blocksGo_true hs
      intro c hc
      rcases List.mem_cons.1 hc with rfl | hc
      · exact ⟨by simpa using h1, hp⟩
      · exact ih c hc
theorem flashOk_len {f : List Bk} (h : flashOk f = true) : f.length = 4 := by unfold flashOk at h; simp at h; exact h.1
theorem flashOk_shape {f : List Bk} (h : flashOk f = true) : ∀ b ∈ f, b.pages.length = 4 ∧ 0 ≤ b.worn ∧ b.worn ≤ 200 := by
  unfold flashOk at h
  simp at h
  intro b hb
  have := (blocksGo_true h.2 b hb).1
  unfold blockShape at this
  simp at this
  exact ⟨this.1, this.2.1, this.2.2.1⟩
/-- the reference's way through the pages: was the one before clean? -/
def spagesGo : List Int → Bool → (List Int → Bool) → List Pg → Bool
  | seen, _, k, [] => k seen
  | seen, pc, k, p :: ps => if pageOk p = false ∨ (pc = true ∧ p.state ≠ 0) ∨ (p.state = 1 ∧ p.rc.seq ∈ seen) then false else spagesGo (if p.state = 1 then p.rc.seq :: seen else seen) (p.state == 0) k ps
def sblocksGo : List Int → List Bk → Bool
  | _, [] => true
  | seen, b :: bs => if b.pages.length ≠ 4 ∨ b.worn < 0 ∨ 200 < b.worn then false else spagesGo seen false (fun s => sblocksGo s bs) b.pages
theorem spagesGo_step {seen : List Int} {pc : Bool} {k : List Int → Bool} {p : Pg} {ps : List Pg} (h1 : pageOk p = true) (h2 : pc = true → p.state = 0) (h3 : p.state ≠ 1) : spagesGo seen pc k (p :: ps) = spagesGo seen (p.state == 0) k ps := by
  rw [spagesGo, if_neg (fun h => h.elim (fun h => absurd h (by simp [h1])) (fun h => h.elim (fun h => h.2 (h2 h.1)) (fun h => h3 h.1))), if_neg h3]
theorem spagesGo_put {seen : List Int} {pc : Bool} {k : List Int → Bool} {p : Pg} {ps : List Pg} (h1 : pageOk p = true) (h2 : pc = true → p.state = 0) (h3 : p.state = 1) (h4 : ¬ p.rc.seq ∈ seen) : spagesGo seen pc k (p :: ps) = spagesGo (p.rc.seq :: seen) (p.state == 0) k ps := by
  rw [spagesGo, if_neg (fun h => h.elim (fun h => absurd h (by simp [h1])) (fun h => h.elim (fun h => h.2 (h2 h.1)) (fun h => h4 h.2))), if_pos h3]
theorem spagesGo_no {seen : List Int} {pc : Bool} {k : List Int → Bool} {p : Pg} {ps : List Pg} (h : pageOk p = false ∨ (pc = true ∧ p.state ≠ 0) ∨ (p.state = 1 ∧ p.rc.seq ∈ seen)) : spagesGo seen pc k (p :: ps) = false := by
  rw [spagesGo, if_pos h]
theorem spagesGo_eq (k : List Int → Bool) : ∀ (ps : List Pg) (seen : List Int) (pc : Bool), spagesGo seen pc k ps = (shapeGo pc ps && pagesGo seen k ps)
  | [], seen, pc => by simp [spagesGo, shapeGo, pagesGo]
  | p :: ps, seen, pc => by
    unfold spagesGo shapeGo pagesGo
    rw [spagesGo_eq k ps]
    by_cases h1 : pageOk p = false
    · simp [h1]
    · by_cases h2 : pc = true ∧ p.state ≠ 0
      · simp [h2]
      · have h2' : ¬ (pc && p.state != 0) = true := by simpa using h2
        rw [if_neg h2', if_neg h1]
        by_cases h3 : p.state = 1
        · by_cases h4 : p.rc.seq ∈ seen
          · simp [h1, h2, h3, h4]
          · rw [if_neg (by simp [h1, h2, h3, h4]; simpa [h3] using h2), if_pos h3, if_neg (by simp [h3]), if_neg h4]
        · rw [if_neg (by simp [h1, h3]; simpa using h2), if_neg h3, if_pos h3]
theorem sblocksGo_eq : ∀ (f : List Bk) (seen : List Int), sblocksGo seen f = blocksGo seen f
  | [], _ => rfl
  | b :: bs, seen => by
    unfold sblocksGo blocksGo
    have e : (fun s => sblocksGo s bs) = (fun s => blocksGo s bs) := by funext s; exact sblocksGo_eq bs s
    rw [e, spagesGo_eq]
    by_cases h : b.pages.length ≠ 4 ∨ b.worn < 0 ∨ 200 < b.worn
    · rw [if_pos h, if_pos]
      unfold blockShape
      rcases h with h | h | h <;> simp [h] <;> omega
    · rw [if_neg h]
      have h1 : b.pages.length = 4 ∧ 0 ≤ b.worn ∧ b.worn ≤ 200 := by omega
      have h2 : blockShape b = shapeGo false b.pages := by unfold blockShape; simp [h1.1, h1.2.1, h1.2.2]
      rw [h2]
      cases shapeGo false b.pages <;> simp
end Go.Proofs.Ytfkjhnfbajflaaa
namespace Go.Proofs.Ytfkjhnfbajflaaa
set_option linter.unusedVariables false
set_option linter.unusedSimpArgs false
open Go.RowKit

/-- a page's five cells -/
theorem Row.pg {w : World} {b o k : Nat} {ps : List Pg} {p : Pg} (h : Row w (some ⟨b, o, none⟩) (pgs ps)) (hk : ps[k]? = some p) :
    w.cell? ⟨b, o + k * 5, none⟩ = some (.int .i64 p.state) ∧ w.cell? ⟨b, o + k * 5 + 1, none⟩ = some (.int .i64 p.rc.kind) ∧ w.cell? ⟨b, o + k * 5 + 2, none⟩ = some (.int .i64 p.rc.seq) ∧
      w.cell? ⟨b, o + k * 5 + 3, none⟩ = some (.int .i64 p.rc.addr) ∧ w.cell? ⟨b, o + k * 5 + 4, none⟩ = some (.int .i64 p.rc.val) := by
  have hlt := (List.getElem?_eq_some_iff.1 hk).1
  obtain ⟨b', o', he, hc⟩ := h (by intro e; have := pgs_len ps; rw [e] at this; simp at this; omega)
  cases he
  have hg : ∀ j u, p.vs[j]? = some u → j < 5 → w.cell? ⟨b, o + (k * 5 + j), none⟩ = some u := fun j u hj hl => (hc (k * 5 + j) u (by rw [pgs, flat_get _ 5 (fun _ => rfl) ps k j p hk hl]; exact hj)).1
  exact ⟨hg 0 _ rfl (by omega), hg 1 _ rfl (by omega), hg 2 _ rfl (by omega), hg 3 _ rfl (by omega), hg 4 _ rfl (by omega)⟩
theorem Row.pgf {w : World} {b o k : Nat} {ps : List Pg} {p : Pg} (h : Row w (some ⟨b, o, none⟩) (pgs ps)) (hk : ps[k]? = some p) :
    w.frozen? ⟨b, o + k * 5, none⟩ = false ∧ w.frozen? ⟨b, o + k * 5 + 1, none⟩ = false ∧ w.frozen? ⟨b, o + k * 5 + 2, none⟩ = false ∧
      w.frozen? ⟨b, o + k * 5 + 3, none⟩ = false ∧ w.frozen? ⟨b, o + k * 5 + 4, none⟩ = false := by
  have hlt := (List.getElem?_eq_some_iff.1 hk).1
  obtain ⟨b', o', he, hc⟩ := h (by intro e; have := pgs_len ps; rw [e] at this; simp at this; omega)
  cases he
  have hg : ∀ j u, p.vs[j]? = some u → j < 5 → w.frozen? ⟨b, o + (k * 5 + j), none⟩ = false := fun j u hj hl => (hc (k * 5 + j) u (by rw [pgs, flat_get _ 5 (fun _ => rfl) ps k j p hk hl]; exact hj)).2
  exact ⟨hg 0 _ rfl (by omega), hg 1 _ rfl (by omega), hg 2 _ rfl (by omega), hg 3 _ rfl (by omega), hg 4 _ rfl (by omega)⟩
theorem Row.int_ {w : World} {b o k : Nat} {xs : List Int} {x : Int} (h : Row w (some ⟨b, o, none⟩) (ints xs)) (hk : xs[k]? = some x) :
    w.cell? ⟨b, o + k, none⟩ = some (.int .i64 x) ∧ w.frozen? ⟨b, o + k, none⟩ = false := by
  have hlt := (List.getElem?_eq_some_iff.1 hk).1
  obtain ⟨b', o', he, hc⟩ := h (by intro e; have := ints_len xs; rw [e] at this; simp at this; omega)
  cases he
  exact hc k _ (by simp [ints, hk])
theorem Row.news {w : World} {b o : Nat} {vs : List Value} (h : Row w (some ⟨b, o, none⟩) vs) : ∀ j u, vs[j]? = some u → w.cell? ((⟨b, o, none⟩ : Addr).add j) = some u := fun j u hj => by
  obtain ⟨b', o', he, hc⟩ := h (by intro e; rw [e] at hj; cases hj)
  cases he
  rw [addr_add]
  exact (hc j u hj).1
theorem Row.addr {w : World} {A : Option Addr} {vs : List Value} (h : Row w A vs) (hn : vs ≠ []) : ∃ b o, A = some ⟨b, o, none⟩ := by
  obtain ⟨b, o, rfl, _⟩ := h hn; exact ⟨b, o, rfl⟩
theorem pgs_ne {ps : List Pg} (h : ps ≠ []) : pgs ps ≠ [] := by
  cases ps with
  | nil => exact absurd rfl h
  | cons p ps => simp [pgs, Pg.vs]

/-- the headers of blocks: where each one's pages lie, how many there are, its wear -/
def hdrs : List Bk → List (Option Addr × Nat) → List Value
  | b :: f, h :: hs => .slice h.1 b.pages.length h.2 :: .int .i64 b.worn :: hdrs f hs
  | _, _ => []
theorem hdrs_len : ∀ (f : List Bk) (hs : List (Option Addr × Nat)), hs.length = f.length → (hdrs f hs).length = f.length * 2
  | [], _, _ => by simp [hdrs]
  | b :: f, [], h => by simp at h
  | b :: f, x :: hs, h => by
    simp only [hdrs, List.length_cons]
    rw [hdrs_len f hs (by simpa using h)]; omega
theorem hdrs_get : ∀ (f : List Bk) (hs : List (Option Addr × Nat)) (i : Nat) (b : Bk) (x : Option Addr × Nat), f[i]? = some b → hs[i]? = some x →
    (hdrs f hs)[i * 2]? = some (.slice x.1 b.pages.length x.2) ∧ (hdrs f hs)[i * 2 + 1]? = some (.int .i64 b.worn)
  | [], _, _, _, _, h, _ => by simp at h
  | _ :: _, [], _, _, _, _, h => by simp at h
  | b :: f, x :: hs, 0, b', x', h, h' => by simp at h h'; subst h; subst h'; simp [hdrs]
  | b :: f, x :: hs, i + 1, b', x', h, h' => by
    have ih := hdrs_get f hs i b' x' (by simpa using h) (by simpa using h')
    rw [show (i + 1) * 2 = i * 2 + 1 + 1 by omega]
    simpa [hdrs] using ih
theorem hdrs_append : ∀ (f g : List Bk) (hs ks : List (Option Addr × Nat)), hs.length = f.length → hdrs (f ++ g) (hs ++ ks) = hdrs f hs ++ hdrs g ks
  | [], g, [], ks, _ => by simp [hdrs]
  | [], g, _ :: _, ks, h => by simp at h
  | b :: f, g, [], ks, h => by simp at h
  | b :: f, g, x :: hs, ks, h => by simp [hdrs, hdrs_append f g hs ks (by simpa using h)]

/-- a flash that can be read: hs says where the pages lie -/
structure Bks (w : World) (A : Option Addr) (f : List Bk) (hs : List (Option Addr × Nat)) : Prop where
  len : hs.length = f.length
  row : Row w A (hdrs f hs)
  pg : ∀ (i : Nat) (b : Bk) (x : Option Addr × Nat), f[i]? = some b → hs[i]? = some x → Row w x.1 (pgs b.pages) ∧ b.pages.length ≤ x.2
def Fl (w : World) (A : Option Addr) (f : List Bk) : Prop := ∃ hs, Bks w A f hs
theorem Bks.keep {w w' : World} {A : Option Addr} {f : List Bk} {hs : List (Option Addr × Nat)} (h : Bks w A f hs)
    (hk : ∀ b, (blk A b ∨ ∃ x ∈ hs, blk x.1 b) → b < w.heap.size → w'.heap[b]? = w.heap[b]?) : Bks w' A f hs :=
  ⟨h.len, h.row.keep fun b hb => hk b (.inl hb), fun i b x hb hx => ⟨(h.pg i b x hb hx).1.keep fun c hc => hk c (.inr ⟨x, List.mem_of_getElem? hx, hc⟩), (h.pg i b x hb hx).2⟩⟩
theorem Bks.below {w w' : World} {A : Option Addr} {f : List Bk} {hs : List (Option Addr × Nat)} {B : Nat} (h : Bks w A f hs) (hb : Below B w w') (hB : w.heap.size ≤ B) : Bks w' A f hs :=
  h.keep fun b _ hl => hb.block b (by omega)
theorem Bks.alloc {w : World} {A : Option Addr} {f : List Bk} {hs : List (Option Addr × Nat)} (h : Bks w A f hs) (o : Obj) : Bks (w.alloc o) A f hs := h.keep fun b _ hl => Below.heap_alloc w o b hl
theorem Bks.drew {w : World} {A : Option Addr} {f : List Bk} {hs : List (Option Addr × Nat)} (h : Bks w A f hs) : Bks w.drew A f hs := ⟨h.len, h.row, h.pg⟩
theorem Bks.drewN {w : World} {A : Option Addr} {f : List Bk} {hs : List (Option Addr × Nat)} (h : Bks w A f hs) (n : Nat) : Bks (w.drewN n) A f hs := ⟨h.len, h.row, h.pg⟩
theorem Fl.below {w w' : World} {A : Option Addr} {f : List Bk} {B : Nat} (h : Fl w A f) (hb : Below B w w') (hB : w.heap.size ≤ B) : Fl w' A f := by
  obtain ⟨hs, h⟩ := h; exact ⟨hs, h.below hb hB⟩
theorem Fl.alloc {w : World} {A : Option Addr} {f : List Bk} (h : Fl w A f) (o : Obj) : Fl (w.alloc o) A f := by
  obtain ⟨hs, h⟩ := h; exact ⟨hs, h.alloc o⟩
theorem Bks.addr {w : World} {A : Option Addr} {f : List Bk} {hs : List (Option Addr × Nat)} (h : Bks w A f hs) (hn : f ≠ []) : ∃ b o, A = some ⟨b, o, none⟩ :=
  h.row.addr (by
    intro e
    have hl := hdrs_len f hs h.len
    rw [e] at hl
    exact hn (List.eq_nil_of_length_eq_zero (by simp at hl; omega)))
/-- block i: its header's cells, its pages -/
theorem Bks.at_ {w : World} {g o i : Nat} {f : List Bk} {hs : List (Option Addr × Nat)} {b : Bk} (h : Bks w (some ⟨g, o, none⟩) f hs) (hi : f[i]? = some b) :
    ∃ x, hs[i]? = some x ∧ w.cell? ⟨g, o + i * 2, none⟩ = some (.slice x.1 b.pages.length x.2) ∧ w.cell? ⟨g, o + i * 2 + 1, none⟩ = some (.int .i64 b.worn) ∧
      w.frozen? ⟨g, o + i * 2, none⟩ = false ∧ w.frozen? ⟨g, o + i * 2 + 1, none⟩ = false ∧ Row w x.1 (pgs b.pages) ∧ b.pages.length ≤ x.2 := by
  have hlt := (List.getElem?_eq_some_iff.1 hi).1
  obtain ⟨x, hx⟩ := get_some (l := hs) (k := i) (by rw [h.len]; exact hlt)
  obtain ⟨g1, g2⟩ := hdrs_get f hs i b x hi hx
  obtain ⟨b', o', he, hc⟩ := h.row (by intro e; rw [e] at g1; simp at g1)
  cases he
  obtain ⟨h1, h2⟩ := h.pg i b x hi hx
  exact ⟨x, hx, (hc _ _ g1).1, (hc _ _ g2).1, (hc _ _ g1).2, (hc _ _ g2).2, h1, h2⟩

/-- the blocks of a flash lie from lo on and below hi, and no two are one -/
structure Apt (lo hi : Nat) (A : Option Addr) (hs : List (Option Addr × Nat)) : Prop where
  top : ∀ b : Nat, blk A b → lo ≤ b ∧ b < hi
  in_ : ∀ (i : Nat) (x : Option Addr × Nat) (b : Nat), hs[i]? = some x → blk x.1 b → lo ≤ b ∧ b < hi ∧ ¬ blk A b
  two : ∀ (i j : Nat) (x y : Option Addr × Nat) (b : Nat), hs[i]? = some x → hs[j]? = some y → blk x.1 b → blk y.1 b → i = j
theorem Apt.mono {lo hi lo' hi' : Nat} {A : Option Addr} {hs : List (Option Addr × Nat)} (h : Apt lo hi A hs) (h1 : lo' ≤ lo) (h2 : hi ≤ hi') : Apt lo' hi' A hs :=
  ⟨fun b hb => by have := h.top b hb; omega, fun i x b hx hb => by have := h.in_ i x b hx hb; exact ⟨by omega, by omega, this.2.2⟩, h.two⟩
/-- a flash of one's own -/
def OFl (w : World) (lo hi : Nat) (A : Option Addr) (f : List Bk) : Prop := ∃ hs, Bks w A f hs ∧ Apt lo hi A hs
theorem OFl.fl {w : World} {lo hi : Nat} {A : Option Addr} {f : List Bk} (h : OFl w lo hi A f) : Fl w A f := by obtain ⟨hs, h, _⟩ := h; exact ⟨hs, h⟩
theorem OFl.mono {w : World} {lo hi lo' hi' : Nat} {A : Option Addr} {f : List Bk} (h : OFl w lo hi A f) (h1 : lo' ≤ lo) (h2 : hi ≤ hi') : OFl w lo' hi' A f := by
  obtain ⟨hs, h, k⟩ := h; exact ⟨hs, h, k.mono h1 h2⟩
theorem OFl.keep {w w' : World} {lo hi : Nat} {A : Option Addr} {f : List Bk} (h : OFl w lo hi A f) (hk : ∀ b, lo ≤ b → b < hi → b < w.heap.size → w'.heap[b]? = w.heap[b]?) : OFl w' lo hi A f := by
  obtain ⟨hs, h, k⟩ := h
  refine ⟨hs, h.keep fun b hb hl => ?_, k⟩
  rcases hb with hb | ⟨x, hx, hb⟩
  · have := k.top b hb; exact hk b this.1 this.2 hl
  · obtain ⟨i, hi'⟩ := List.getElem?_of_mem hx
    have := k.in_ i x b hi' hb; exact hk b this.1 this.2.1 hl
theorem OFl.agr {w w' : World} {lo hi : Nat} {A : Option Addr} {f : List Bk} {S : Nat → Prop} (h : OFl w lo hi A f) (hb : Agr S w w') (hS : ∀ b, lo ≤ b → b < hi → ¬ S b) : OFl w' lo hi A f :=
  h.keep fun b h1 h2 hl => hb.block b hl (hS b h1 h2)
theorem OFl.below {w w' : World} {lo hi B : Nat} {A : Option Addr} {f : List Bk} (h : OFl w lo hi A f) (hb : Below B w w') (hB : w.heap.size ≤ B) : OFl w' lo hi A f :=
  h.keep fun b _ _ hl => hb.block b (by omega)
theorem OFl.alloc {w : World} {lo hi : Nat} {A : Option Addr} {f : List Bk} (h : OFl w lo hi A f) (o : Obj) : OFl (w.alloc o) lo hi A f := h.keep fun b _ _ hl => Below.heap_alloc w o b hl

theorem hdrs_set : ∀ (f : List Bk) (hs : List (Option Addr × Nat)) (i : Nat) (b c : Bk) (x : Option Addr × Nat), f[i]? = some b → hs[i]? = some x →
    hdrs (f.set i c) hs = setL (hdrs f hs) (i * 2) [.slice x.1 c.pages.length x.2, .int .i64 c.worn]
  | [], _, _, _, _, _, h, _ => by simp at h
  | _ :: _, [], _, _, _, _, _, h => by simp at h
  | b :: f, x :: hs, 0, b', c, x', h, h' => by simp at h'; subst h'; simp [hdrs, setL]
  | b :: f, x :: hs, i + 1, b', c, x', h, h' => by
    have ih := hdrs_set f hs i b' c x' (by simpa using h) (by simpa using h')
    rw [List.set_cons_succ, hdrs, hdrs, ih]
    exact (by rw [show (i + 1) * 2 = 2 + i * 2 by omega]; exact (setL_right [_, _] _ _ _).symm)
theorem pgs_set : ∀ (ps : List Pg) (k : Nat) (p : Pg), k < ps.length → pgs (ps.set k p) = setL (pgs ps) (k * 5) p.vs
  | [], _, _, h => by simp at h
  | q :: ps, 0, p, _ => by simp [pgs, Pg.vs, setL]
  | q :: ps, k + 1, p, h => by
    have ih := pgs_set ps k p (by simpa using h)
    rw [List.set_cons_succ]
    show q.vs ++ pgs (ps.set k p) = setL (q.vs ++ pgs ps) _ _
    rw [ih, show (k + 1) * 5 = q.vs.length + k * 5 by simp [Pg.vs]; omega, setL_right]
theorem ints_set (xs : List Int) (k : Nat) (x : Int) : ints (xs.set k x) = setL (ints xs) k [.int .i64 x] := by simp [ints, setL, List.map_set]

/-- block i's header was written; its pages lie at x still -/
theorem Bks.setHdr {w w' : World} {g o i : Nat} {f : List Bk} {hs : List (Option Addr × Nat)} {b : Bk} {x : Option Addr × Nat} {n : Int} {lo hi : Nat} (h : Bks w (some ⟨g, o, none⟩) f hs) (k : Apt lo hi (some ⟨g, o, none⟩) hs)
    (hb : f[i]? = some b) (hx : hs[i]? = some x) (hw : Wrote w w' g (o + i * 2) [.slice x.1 b.pages.length x.2, .int .i64 n]) : Bks w' (some ⟨g, o, none⟩) (f.set i { b with worn := n }) hs := by
  have hlt := (List.getElem?_eq_some_iff.1 hb).1
  refine ⟨by simp [h.len], ?_, fun j c y hc hy => ?_⟩
  · rw [hdrs_set f hs i b { b with worn := n } x hb hx]
    exact hw.row h.row (by rw [hdrs_len f hs h.len]; simp; omega)
  · have hfar : ¬ blk y.1 g := fun e => (k.in_ j y g hy e).2.2 rfl
    by_cases hj : j = i
    · subst hj
      rw [List.getElem?_set_self hlt] at hc
      cases hc
      obtain ⟨h1, h2⟩ := h.pg j b y hb hy
      exact ⟨hw.far h1 hfar, h2⟩
    · rw [List.getElem?_set_ne (by omega)] at hc
      obtain ⟨h1, h2⟩ := h.pg j c y hc hy
      exact ⟨hw.far h1 hfar, h2⟩
/-- page j of block i was written -/
theorem Bks.setPage {w w' : World} {A : Option Addr} {i j pb po : Nat} {f : List Bk} {hs : List (Option Addr × Nat)} {b : Bk} {c : Nat} {p : Pg} {lo hi : Nat} (h : Bks w A f hs) (k : Apt lo hi A hs)
    (hb : f[i]? = some b) (hx : hs[i]? = some (some ⟨pb, po, none⟩, c)) (hj : j < b.pages.length) (hw : Wrote w w' pb (po + j * 5) p.vs) : Bks w' A (f.set i { b with pages := b.pages.set j p }) hs := by
  have hlt := (List.getElem?_eq_some_iff.1 hb).1
  have htop : ¬ blk A pb := (k.in_ i _ pb hx rfl).2.2
  refine ⟨by simp [h.len], ?_, fun m d y hd hy => ?_⟩
  · have e : hdrs (f.set i { b with pages := b.pages.set j p }) hs = hdrs f hs := by
      rw [hdrs_set f hs i b _ _ hb hx]
      obtain ⟨g1, g2⟩ := hdrs_get f hs i b _ hb hx
      refine List.ext_getElem? fun m => ?_
      rw [setL_get _ _ _ _ (by rw [hdrs_len f hs h.len]; simp; omega)]
      split
      · rename_i hm
        simp at hm
        rcases (by omega : m = i * 2 ∨ m = i * 2 + 1) with rfl | rfl
        · rw [g1]; simp
        · rw [g2]; simp
      · rfl
    rw [e]; exact hw.far h.row htop
  · by_cases hm : m = i
    · subst hm
      rw [List.getElem?_set_self hlt] at hd
      cases hd
      rw [hx] at hy; cases hy
      obtain ⟨h1, h2⟩ := h.pg m b _ hb hx
      refine ⟨?_, by simpa using h2⟩
      show Row w' _ (pgs (b.pages.set j p))
      rw [pgs_set b.pages j p hj]
      exact hw.row h1 (by rw [pgs_len]; simp [Pg.vs]; omega)
    · rw [List.getElem?_set_ne (by omega)] at hd
      obtain ⟨h1, h2⟩ := h.pg m d y hd hy
      refine ⟨hw.far h1 fun e => hm (k.two m i y _ pb hy hx e rfl), h2⟩
/-- block i was replaced: its pages lie elsewhere now -/
theorem Bks.setBlock {w w' : World} {g o i : Nat} {f : List Bk} {hs : List (Option Addr × Nat)} {c : Bk} {x : Option Addr × Nat} (h : Bks w (some ⟨g, o, none⟩) f hs) (hi : i < f.length)
    (hg : ∀ (j : Nat) (y : Option Addr × Nat), hs[j]? = some y → ¬ blk y.1 g) (hx : ¬ blk x.1 g) (hr : Row w x.1 (pgs c.pages)) (hc : c.pages.length ≤ x.2)
    (hw : Wrote w w' g (o + i * 2) [.slice x.1 c.pages.length x.2, .int .i64 c.worn]) : Bks w' (some ⟨g, o, none⟩) (f.set i c) (hs.set i x) := by
  refine ⟨by simp [h.len], ?_, fun j d y hd hy => ?_⟩
  · have e : hdrs (f.set i c) (hs.set i x) = setL (hdrs f hs) (i * 2) [.slice x.1 c.pages.length x.2, .int .i64 c.worn] := by
      have hl := h.len
      clear h hw hg hr
      induction f generalizing i hs with
      | nil => simp at hi
      | cons a f ih =>
        cases hs with
        | nil => simp at hl
        | cons z hs =>
          cases i with
          | zero => simp [hdrs, setL]
          | succ i =>
            rw [List.set_cons_succ, List.set_cons_succ, hdrs, hdrs, ih (hs := hs) (i := i) (by simpa using hi) (by simpa using hl)]
            exact (by rw [show (i + 1) * 2 = 2 + i * 2 by omega]; exact (setL_right [_, _] _ _ _).symm)
    rw [e]
    exact hw.row h.row (by rw [hdrs_len f hs h.len]; simp; omega)
  · by_cases hj : j = i
    · subst hj
      rw [List.getElem?_set_self hi] at hd
      rw [List.getElem?_set_self (by rw [h.len]; exact hi)] at hy
      cases hd; cases hy
      exact ⟨hw.far hr hx, hc⟩
    · rw [List.getElem?_set_ne (by omega)] at hd
      rw [List.getElem?_set_ne (by omega)] at hy
      obtain ⟨h1, h2⟩ := h.pg j d y hd hy
      exact ⟨hw.far h1 (hg j y hy), h2⟩
/-- the pages of block i were written, as many as before -/
theorem Bks.newPages {w w' : World} {A : Option Addr} {i : Nat} {f : List Bk} {hs : List (Option Addr × Nat)} {b : Bk} {x : Option Addr × Nat} {ps : List Pg} {lo hi : Nat} (h : Bks w A f hs) (k : Apt lo hi A hs)
    (hb : f[i]? = some b) (hx : hs[i]? = some x) (hl : ps.length = b.pages.length) (hr : Row w' x.1 (pgs ps)) (ha : Agr (blk x.1) w w') : Bks w' A (f.set i { b with pages := ps }) hs := by
  have hlt := (List.getElem?_eq_some_iff.1 hb).1
  refine ⟨by simp [h.len], ?_, fun m d y hd hy => ?_⟩
  · have e : hdrs (f.set i { b with pages := ps }) hs = hdrs f hs := by
      rw [hdrs_set f hs i b _ _ hb hx]
      obtain ⟨g1, g2⟩ := hdrs_get f hs i b _ hb hx
      refine List.ext_getElem? fun m => ?_
      rw [setL_get _ _ _ _ (by rw [hdrs_len f hs h.len]; simp; omega)]
      split
      · rename_i hm
        simp at hm
        rcases (by omega : m = i * 2 ∨ m = i * 2 + 1) with rfl | rfl
        · rw [g1]; simp [hl]
        · rw [g2]; simp
      · rfl
    rw [e]
    exact h.row.agr ha fun c hA hc => (k.in_ i x c hx hc).2.2 hA
  · by_cases hm : m = i
    · subst hm
      rw [List.getElem?_set_self hlt] at hd
      cases hd
      rw [hx] at hy; cases hy
      exact ⟨hr, by have := (h.pg m b _ hb hx).2; simp only; omega⟩
    · rw [List.getElem?_set_ne (by omega)] at hd
      obtain ⟨h1, h2⟩ := h.pg m d y hd hy
      exact ⟨h1.agr ha fun c hc hc' => hm (k.two m i y x c hy hx hc hc'), h2⟩
theorem Apt.set {lo hi hi' : Nat} {A : Option Addr} {hs : List (Option Addr × Nat)} (h : Apt lo hi A hs) (i : Nat) (x : Option Addr × Nat) (hx : ∀ b, blk x.1 b → hi ≤ b ∧ b < hi') (hlh : lo ≤ hi) (hh : hi ≤ hi') : Apt lo hi' A (hs.set i x) := by
  have key : ∀ (j : Nat) (y : Option Addr × Nat), (hs.set i x)[j]? = some y → (j = i ∧ y = x) ∨ (j ≠ i ∧ hs[j]? = some y) := fun j y hy => by
    by_cases hj : j = i
    · subst hj
      have hl := (List.getElem?_eq_some_iff.1 hy).1
      rw [List.getElem?_set_self (by simpa using hl)] at hy
      cases hy; exact .inl ⟨rfl, rfl⟩
    · rw [List.getElem?_set_ne (by omega)] at hy; exact .inr ⟨hj, hy⟩
  refine ⟨fun b hb => by have := h.top b hb; omega, fun j y b hy hb => ?_, fun j m y z b hy hz hb hc => ?_⟩
  · rcases key j y hy with ⟨rfl, rfl⟩ | ⟨hj, hy⟩
    · have := hx b hb; exact ⟨by omega, by omega, fun e => by have := h.top b e; omega⟩
    · have := h.in_ j y b hy hb; exact ⟨by omega, by omega, this.2.2⟩
  · rcases key j y hy with ⟨ej, ey⟩ | ⟨_, hy'⟩ <;> rcases key m z hz with ⟨em, ez⟩ | ⟨_, hz'⟩
    · omega
    · have h1 := hx b (ey ▸ hb); have h2 := h.in_ m z b hz' hc; omega
    · have h1 := hx b (ez ▸ hc); have h2 := h.in_ j y b hy' hb; omega
    · exact h.two j m y z b hy' hz' hb hc
/-- a header stored: two cells -/
theorem wrote_hdr {w : World} {g o i : Nat} {f : List Bk} {hs : List (Option Addr × Nat)} {b : Bk} (h : Bks w (some ⟨g, o, none⟩) f hs) (hi : f[i]? = some b) (v u : Value) :
    Wrote w ((w.setCell ⟨g, o + i * 2, none⟩ v).setCell ⟨g, o + i * 2 + 1, none⟩ u) g (o + i * 2) [v, u] := by
  obtain ⟨x, _, c0, c1, _⟩ := h.at_ hi
  refine wrote_setRow g [v, u] (o + i * 2) w fun j hj => ?_
  match j, hj with
  | 0, _ => exact ⟨_, c0⟩
  | 1, _ => exact ⟨_, c1⟩
def zbk : Bk := ⟨[], 0⟩
theorem Bks.new (w : World) (n : Nat) (t : TypeId) (cs : Array Value) (hc : cs.toList = hdrs (List.replicate n zbk) (List.replicate n (none, 0))) : Bks (w.alloc (.cells cs t)) (some ⟨w.heap.size, 0, none⟩) (List.replicate n zbk) (List.replicate n (none, 0)) :=
  ⟨by simp, hc ▸ Row.new w cs t, fun i b x hb hx => by
    have h1 := List.mem_of_getElem? hb; have h2 := List.mem_of_getElem? hx
    rw [List.mem_replicate] at h1 h2
    obtain ⟨_, rfl⟩ := h1; obtain ⟨_, rfl⟩ := h2
    exact ⟨Row.nil _ _, Nat.le_refl _⟩⟩
theorem Apt.new (g : Nat) (n : Nat) : Apt g (g + 1) (some ⟨g, 0, none⟩) (List.replicate n ((none : Option Addr), 0)) :=
  have key : ∀ (i : Nat) (x : Option Addr × Nat) (b : Nat), (List.replicate n ((none : Option Addr), 0))[i]? = some x → ¬ blk x.1 b := fun i x b hx hb => by
    have h2 := List.mem_of_getElem? hx
    rw [List.mem_replicate] at h2
    obtain ⟨_, rfl⟩ := h2
    cases hb
  ⟨fun b hb => by cases hb; exact ⟨Nat.le_refl _, Nat.lt_succ_self _⟩, fun i x b hx hb => absurd hb (key i x b hx), fun i j x y b hx hy hb _ => absurd hb (key i x b hx)⟩
theorem copy_step {α : Type} (z : α) (f : List α) (n k : Nat) (x : α) (h : f[k]? = some x) (hn : f.length = n) : (f.take k ++ (List.replicate n z).drop k).set k x = f.take (k + 1) ++ (List.replicate n z).drop (k + 1) := by
  obtain ⟨hl, rfl⟩ := List.getElem?_eq_some_iff.1 h
  rw [List.set_append_right _ _ (by simp; omega), show k - (f.take k).length = 0 by simp; omega, List.drop_eq_getElem_cons (by simp; omega), List.set_cons_zero, List.take_succ_eq_append_getElem hl, List.append_assoc]
  rfl
/-- the blocks that a flash lies in -/
def fblk (A : Option Addr) (hs : List (Option Addr × Nat)) (b : Nat) : Prop := blk A b ∨ ∃ (i : Nat) (x : Option Addr × Nat), hs[i]? = some x ∧ blk x.1 b
theorem Apt.fblk {lo hi b : Nat} {A : Option Addr} {hs : List (Option Addr × Nat)} (h : Apt lo hi A hs) (hb : fblk A hs b) : lo ≤ b ∧ b < hi := by
  rcases hb with hb | ⟨i, x, hx, hb⟩
  · exact h.top b hb
  · have := h.in_ i x b hx hb; exact ⟨this.1, this.2.1⟩
end Go.Proofs.Ytfkjhnfbajflaaa
namespace Go.Proofs.Ytfkjhnfbajflaaa
set_option linter.unusedVariables false
set_option linter.unusedSimpArgs false
open Go.RowKit Go.Maps
/-- block b is a map from int to int (types t, K, E) of at most n entries, that answers F -/
def IMap (P : Program) (K E : TypeId) (w : World) (b n : Nat) (F : Int → Int) : Prop :=
  ∃ D : DataW Unit, w.ownsMap P K (plainElem P E) b n D ∧ IsMap D ∧ ∀ k, (Lit.int .i64 k).wf = true → D.atKey (.int .i64 k) (.lit (.int .i64 0)) = .lit (.int .i64 (F k))
section
variable {P : Program} {t K E : TypeId} {w w' : World} {b n : Nat} {F : Int → Int}
theorem IMap.made (P : Program) (K E : TypeId) (w : World) : IMap P K E (w.alloc (.map #[] 0)) w.heap.size 0 (fun _ => 0) := ⟨_, World.ownsMap_made _ _ _ _, isMap_empty, fun k _ => rfl⟩
theorem IMap.mono (h : IMap P K E w b n F) {m : Nat} (hm : n ≤ m) : IMap P K E w b m F := by
  obtain ⟨D, h1, h2⟩ := h; exact ⟨D, h1.mono hm, h2⟩
theorem IMap.lt (h : IMap P K E w b n F) : b < w.heap.size := by obtain ⟨D, h1, _⟩ := h; exact h1.lt
theorem IMap.below {B : Nat} (h : IMap P K E w b n F) (hb : Below B w w') (hB : b < B) : IMap P K E w' b n F := by
  have hl := h.lt
  obtain ⟨D, ⟨es, clock, e, r⟩, h2⟩ := h
  exact ⟨D, ⟨es, clock, (hb.block b hB).trans e, r⟩, h2⟩
theorem IMap.alloc (h : IMap P K E w b n F) (o : Obj) : IMap P K E (w.alloc o) b n F := by
  obtain ⟨D, h1, h2⟩ := h; exact ⟨D, h1.alloc o, h2⟩
theorem IMap.setCell (h : IMap P K E w b n F) {a : Addr} (ha : b ≠ a.block) (u : Value) : IMap P K E (w.setCell a u) b n F := by
  obtain ⟨D, h1, h2⟩ := h; exact ⟨D, h1.setCell ha u, h2⟩
theorem IMap.look (h : IMap P K E w b n F) (ht : P.underlying t = some (.map K E)) (hK : P.underlying K = some (.int .i64)) (hE : P.underlying E = some (.int .i64)) (hz : ∀ w : World, (zeroValue E).run P w = .ok (.int .i64 0) w) {k : Int} (hk : (Lit.int .i64 k).wf = true) :
    (Instr.lookup t (.map (some b)) (.int .i64 k) false).run P w = .ok (.int .i64 (F k)) w := by
  obtain ⟨D, h1, _, h3⟩ := h
  obtain ⟨c, hrun, hat, _⟩ := h1.lookup_int (int_keyed hK) ht hE (hz w) (keyOf_int_mk hK hk)
  rw [h3 k hk] at hat
  rw [hrun]
  injection hat with e1; injection e1 with _ e2
  rw [e2]
theorem isKeyLit_int (k : Int) (hk : (Lit.int .i64 k).wf = true) : WideAt.IsKeyLit (.int .i64 k) := by
  simp [WideAt.IsKeyLit]
theorem IMap.put (h : IMap P K E w b n F) (ht : P.underlying t = some (.map K E)) (hK : P.underlying K = some (.int .i64)) (hE : P.underlying E = some (.int .i64)) (hn : n < maxLen) {k v : Int} (hk : (Lit.int .i64 k).wf = true) (hv : (Lit.int .i64 v).wf = true) :
    ∃ w', (Instr.mapUpdate t (.map (some b)) (.int .i64 k) (.int .i64 v)).run P w = .ok () w' ∧ IMap P K E w' b (n + 1) (fun x => if x = k then v else F x) ∧ w.grownBy w' (some b) := by
  obtain ⟨D, h1, h2, h3⟩ := h
  obtain ⟨w', hrun, g1, g2⟩ := h1.update (int_keyed hK) ht hn (keyOf_int_mk hK hk) (plainElem_int hE hv)
  refine ⟨w', hrun, ⟨_, g1, h2.put _ _, fun x hx => ?_⟩, g2⟩
  dsimp only
  by_cases e : x = k
  · subst e
    rw [if_pos rfl, atKey_put_same h2 (isKeyLit_int _ hk)]
  · rw [if_neg e, atKey_put_other (by intro e'; injection e' with _ e''; exact e e''), h3 x hx]
end
end Go.Proofs.Ytfkjhnfbajflaaa
