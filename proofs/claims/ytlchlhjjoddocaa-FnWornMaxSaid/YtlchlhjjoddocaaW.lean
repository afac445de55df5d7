/- Words: how the program's data lie in memory, and what writes and new blocks do to them. -/
import Derived.WalkKit
import Derived.KernelRfl
import Derived.Below
import Derived.Deep.Draws
import Derived.Lib.Hide
import Derived.Laws.IdiomCopy
namespace Go.Proofs.Ytlchlhjjoddocaa
set_option linter.unusedVariables false
set_option linter.unusedSimpArgs false
open Go.RowKit

/-! ### plain data -/
structure Rc where
  kind : Int
  seq : Int
  addr : Int
  val : Int
deriving DecidableEq, Repr
structure Pg where
  state : Int
  rc : Rc
deriving DecidableEq, Repr
structure Bk where
  pages : List Pg
  worn : Int
deriving DecidableEq, Repr
structure St where
  flash : List Bk
  disk : List Int
deriving DecidableEq, Repr
structure Sp where
  kind : Int
  addr : Int
  val : Int
  block : Int
  rc : Rc
deriving DecidableEq, Repr
structure Ev where
  kind : Int
  a : Int
  b : Int
  c : Int
  torn : Bool
deriving DecidableEq, Repr

def Rc.vs (r : Rc) : List Value := [.int .i64 r.kind, .int .i64 r.seq, .int .i64 r.addr, .int .i64 r.val]
def Pg.vs (p : Pg) : List Value := [.int .i64 p.state, .int .i64 p.rc.kind, .int .i64 p.rc.seq, .int .i64 p.rc.addr, .int .i64 p.rc.val]
def Sp.vs (s : Sp) : List Value := [.int .i64 s.kind, .int .i64 s.addr, .int .i64 s.val, .int .i64 s.block, .int .i64 s.rc.kind, .int .i64 s.rc.seq, .int .i64 s.rc.addr, .int .i64 s.rc.val]
def Ev.vs (e : Ev) : List Value := [.int .i64 e.kind, .int .i64 e.a, .int .i64 e.b, .int .i64 e.c, .bool e.torn]
def pgs (ps : List Pg) : List Value := ps.flatMap Pg.vs
def sps (ss : List Sp) : List Value := ss.flatMap Sp.vs
def evs (es : List Ev) : List Value := es.flatMap Ev.vs
def ints (xs : List Int) : List Value := xs.map (Value.int .i64)
def rc0 : Rc := ⟨0, 0, 0, 0⟩

/-! ### small things -/
theorem ret_bool {a b : Bool} (h : a = b) : Ending.returned (.bool a) = .returned (.bool b) := by rw [h]
theorem ret_int {a b : Int} (h : a = b) : Ending.returned (.int .i64 a) = .returned (.int .i64 b) := by rw [h]
theorem ret_sl {A : Option Addr} {n m c : Nat} {b : Bool} (h : n = m) : Ending.returned (.tuple #[.slice A n c, .bool b]) = .returned (.tuple #[.slice A m c, .bool b]) := by rw [h]
theorem ret_s {A : Option Addr} {n m c : Nat} (h : n = m) : Ending.returned (.slice A n c) = .returned (.slice A m c) := by rw [h]
theorem drop_cons {α : Type} {l : List α} {k : Nat} {x : α} (h : l[k]? = some x) : l.drop k = x :: l.drop (k + 1) := by
  obtain ⟨hlt, rfl⟩ := List.getElem?_eq_some_iff.1 h
  exact List.drop_eq_getElem_cons hlt
theorem get_some {α : Type} {l : List α} {k : Nat} (h : k < l.length) : ∃ x, l[k]? = some x := ⟨_, List.getElem?_eq_getElem h⟩
theorem flat_get {α : Type} (g : α → List Value) (m : Nat) (hg : ∀ x, (g x).length = m) : ∀ (l : List α) (k j : Nat) (x : α), l[k]? = some x → j < m → (l.flatMap g)[k * m + j]? = (g x)[j]?
  | [], _, _, _, h, _ => by simp at h
  | y :: l, 0, j, x, h, hj => by
    simp at h; subst h
    simp only [List.flatMap_cons, Nat.zero_mul, Nat.zero_add]
    rw [List.getElem?_append_left (by rw [hg]; exact hj)]
  | y :: l, k + 1, j, x, h, hj => by
    simp only [List.flatMap_cons]
    rw [List.getElem?_append_right (by rw [hg, Nat.succ_mul]; omega), hg, show (k + 1) * m + j - m = k * m + j by rw [Nat.succ_mul]; omega]
    exact flat_get g m hg l k j x (by simpa using h) hj
theorem flat_len {α : Type} (g : α → List Value) (m : Nat) (hg : ∀ x, (g x).length = m) : ∀ l : List α, (l.flatMap g).length = l.length * m
  | [] => by simp
  | y :: l => by simp only [List.flatMap_cons, List.length_append, hg, List.length_cons, flat_len g m hg l, Nat.succ_mul]; omega
theorem pgs_len (l : List Pg) : (pgs l).length = l.length * 5 := flat_len _ 5 (fun _ => rfl) l
theorem sps_len (l : List Sp) : (sps l).length = l.length * 8 := flat_len _ 8 (fun _ => rfl) l
theorem evs_len (l : List Ev) : (evs l).length = l.length * 5 := flat_len _ 5 (fun _ => rfl) l
theorem ints_len (l : List Int) : (ints l).length = l.length := by simp [ints]

/-! ### worlds: what may have turned -/
/-- of what lay in w, only blocks in S may have turned -/
structure Agr (S : Nat → Prop) (w w' : World) : Prop where
  os : w'.os = w.os
  tape : w'.tape = w.tape
  output : w'.output = w.output
  size : w.heap.size ≤ w'.heap.size
  block : ∀ k, k < w.heap.size → ¬ S k → w'.heap[k]? = w.heap[k]?
theorem Agr.refl (S : Nat → Prop) (w : World) : Agr S w w := ⟨rfl, rfl, rfl, Nat.le_refl _, fun _ _ _ => rfl⟩
theorem Agr.trans {S S' : Nat → Prop} {a b c : World} (h : Agr S a b) (k : Agr S' b c) (hs : ∀ i, i < a.heap.size → S' i → S i) : Agr S a c :=
  ⟨k.os.trans h.os, k.tape.trans h.tape, k.output.trans h.output, Nat.le_trans h.size k.size, fun i hi hn => (k.block i (Nat.lt_of_lt_of_le hi h.size) (fun x => hn (hs i hi x))).trans (h.block i hi hn)⟩
theorem Agr.of_below {S : Nat → Prop} {a b : World} (h : Below a.heap.size a b) : Agr S a b := ⟨h.os, h.tape, h.output, h.size, fun i hi _ => h.block i hi⟩
theorem Agr.mono {S S' : Nat → Prop} {a b : World} (h : Agr S a b) (hs : ∀ i, S i → S' i) : Agr S' a b := ⟨h.os, h.tape, h.output, h.size, fun i hi hn => h.block i hi (fun x => hn (hs i x))⟩
theorem Agr.below {S : Nat → Prop} {a b : World} {B : Nat} (h : Agr S a b) (hB : B ≤ a.heap.size) (hs : ∀ i, S i → B ≤ i) : Below B a b :=
  ⟨h.os, h.tape, h.output, h.size, fun i hi => h.block i (by omega) (fun x => by have := hs i x; omega)⟩
theorem Agr.alloc {S : Nat → Prop} {a w : World} (h : Agr S a w) (o : Obj) : Agr S a (w.alloc o) :=
  ⟨h.os, h.tape, h.output, Nat.le_trans h.size (by simp), fun i hi hn => (Below.heap_alloc w o i (Nat.lt_of_lt_of_le hi h.size)).trans (h.block i hi hn)⟩
theorem Agr.drew {S : Nat → Prop} {a w : World} (h : Agr S a w) : Agr S a w.drew := ⟨h.os, h.tape, h.output, h.size, h.block⟩
theorem Agr.drewN {S : Nat → Prop} {a w : World} (h : Agr S a w) (n : Nat) : Agr S a (w.drewN n) := ⟨h.os, h.tape, h.output, h.size, h.block⟩
theorem Agr.setCell {S : Nat → Prop} {a w : World} (h : Agr S a w) {p : Addr} (hp : a.heap.size ≤ p.block ∨ S p.block) (u : Value) : Agr S a (w.setCell p u) :=
  ⟨h.os, h.tape, h.output, by simpa [World.setCell] using h.size, fun i hi hn => (Below.heap_setCell w p u i (by
    rintro rfl
    rcases hp with hp | hp
    · omega
    · exact hn hp)).trans (h.block i hi hn)⟩
theorem Agr.grown {S : Nat → Prop} {a w w' : World} {row : Option Nat} (h : Agr S a w) (hg : w.grownBy w' row) (hr : ∀ g, row = some g → a.heap.size ≤ g ∨ S g) : Agr S a w' :=
  ⟨hg.os.trans h.os, hg.tape.trans h.tape, hg.output.trans h.output, Nat.le_trans h.size hg.size, fun i hi hn => (hg.block i (Nat.lt_of_lt_of_le hi h.size) (fun e => by
    rcases hr i e.symm with hp | hp
    · omega
    · exact hn hp)).trans (h.block i hi hn)⟩

theorem Agr.cell {S : Nat → Prop} {a w : World} (h : Agr S a w) {b : Nat} (hb : b < a.heap.size) (hs : ¬ S b) (i : Nat) : w.cell? ⟨b, i, none⟩ = a.cell? ⟨b, i, none⟩ := World.cell?_of_block (a := ⟨b, i, none⟩) (h.block b hb hs)
theorem Agr.fz {S : Nat → Prop} {a w : World} (h : Agr S a w) {b : Nat} (hb : b < a.heap.size) (hs : ¬ S b) (i : Nat) : w.frozen? ⟨b, i, none⟩ = a.frozen? ⟨b, i, none⟩ := World.frozen?_of_block (a := ⟨b, i, none⟩) (h.block b hb hs)

theorem undrew {w w' : World} (h : Below w.drew.heap.size w.drew w') : Below w.heap.size w w' := ⟨h.os, h.tape, h.output, h.size, h.block⟩
theorem undrewN {n : Nat} {w w' : World} (h : Below (w.drewN n).heap.size (w.drewN n) w') : Below w.heap.size w w' := ⟨h.os, h.tape, h.output, h.size, h.block⟩

theorem bcell {W w1 : World} (hb : Below W.heap.size W w1) : (∀ b o, b < W.heap.size → w1.cell? ⟨b, o, none⟩ = W.cell? ⟨b, o, none⟩) ∧ (∀ b o, b < W.heap.size → w1.frozen? ⟨b, o, none⟩ = W.frozen? ⟨b, o, none⟩) :=
  ⟨fun b o h => hb.cell (p := ⟨b, o, none⟩) h, fun b o h => hb.frozen (p := ⟨b, o, none⟩) h⟩

/-! ### a row of cells -/
/-- the cells vs lie at A, none frozen -/
def Row (w : World) (A : Option Addr) (vs : List Value) : Prop :=
  vs ≠ [] → ∃ b o, A = some ⟨b, o, none⟩ ∧ ∀ j u, vs[j]? = some u → w.cell? ⟨b, o + j, none⟩ = some u ∧ w.frozen? ⟨b, o + j, none⟩ = false
/-- the block of an address -/
def blk (A : Option Addr) (b : Nat) : Prop := A.map Addr.block = some b
theorem blk_some {b o c : Nat} : blk (some ⟨b, o, none⟩) c ↔ b = c := by simp [blk]
theorem lt_of_cell {w : World} {b o : Nat} {u : Value} (h : w.cell? ⟨b, o, none⟩ = some u) : b < w.heap.size := by
  have := World.block_lt_of_cell? (w := w) (a := ⟨b, o, none⟩) (h := h)
  exact this
theorem Row.nil (w : World) (A : Option Addr) : Row w A [] := fun h => absurd rfl h
theorem Row.keep {w w' : World} {A : Option Addr} {vs : List Value} (h : Row w A vs) (hk : ∀ b, blk A b → b < w.heap.size → w'.heap[b]? = w.heap[b]?) : Row w' A vs := fun hn => by
  obtain ⟨b, o, rfl, hc⟩ := h hn
  refine ⟨b, o, rfl, fun j u hj => ?_⟩
  obtain ⟨h1, h2⟩ := hc j u hj
  have hb := hk b rfl (lt_of_cell h1)
  exact ⟨(World.cell?_of_block (a := ⟨b, o + j, none⟩) hb).trans h1, (World.frozen?_of_block (a := ⟨b, o + j, none⟩) hb).trans h2⟩
theorem Row.below {w w' : World} {A : Option Addr} {vs : List Value} {B : Nat} (h : Row w A vs) (hb : Below B w w') (hB : w.heap.size ≤ B) : Row w' A vs :=
  h.keep fun b _ hl => hb.block b (by omega)
theorem Row.agr {w w' : World} {A : Option Addr} {vs : List Value} {S : Nat → Prop} (h : Row w A vs) (hb : Agr S w w') (hS : ∀ b, blk A b → ¬ S b) : Row w' A vs :=
  h.keep fun b hA hl => hb.block b hl (hS b hA)
theorem Row.alloc {w : World} {A : Option Addr} {vs : List Value} (h : Row w A vs) (o : Obj) : Row (w.alloc o) A vs := h.keep fun b _ hl => Below.heap_alloc w o b hl
theorem Row.new (w : World) (cs : Array Value) (t : TypeId) : Row (w.alloc (.cells cs t)) (some ⟨w.heap.size, 0, none⟩) cs.toList := fun _ =>
  ⟨_, _, rfl, fun j u hj => ⟨by simpa using hj, by simp⟩⟩
theorem Row.drew {w : World} {A : Option Addr} {vs : List Value} (h : Row w A vs) : Row w.drew A vs := h
theorem Row.drewN {w : World} {A : Option Addr} {vs : List Value} (h : Row w A vs) (n : Nat) : Row (w.drewN n) A vs := h
theorem Row.at_ {w : World} {A : Option Addr} {vs : List Value} (h : Row w A vs) (hn : vs ≠ []) : ∃ b o, A = some ⟨b, o, none⟩ ∧ ∀ j u, vs[j]? = some u → w.cell? ⟨b, o + j, none⟩ = some u ∧ w.frozen? ⟨b, o + j, none⟩ = false := h hn
theorem Row.lt {w : World} {A : Option Addr} {vs : List Value} (h : Row w A vs) (hn : vs ≠ []) {b : Nat} (hb : blk A b) : b < w.heap.size := by
  obtain ⟨b', o, rfl, hc⟩ := h hn
  cases hb
  cases vs with
  | nil => exact absurd rfl hn
  | cons v vs => exact lt_of_cell (hc 0 v rfl).1
theorem Row.of_own {w : World} {base n : Nat} {e : TypeId} {size c : Nat} {A : Option Addr} {vs : List Value} (h : w.ownsRow base e size (.slice A n c) n vs) : Row w A vs := fun hn => by
  obtain ⟨hl, ⟨hv, _⟩ | ⟨g, cap, cur, hv, hb, hh, hnc, hm, hs, ht⟩⟩ := h
  · rename_i hz
    subst hz
    exact absurd (List.eq_nil_of_length_eq_zero (by rw [hl, Nat.zero_mul])) hn
  · cases hv
    refine ⟨g, 0, rfl, fun j u hj => ?_⟩
    rw [← ht] at hj
    have hj' : cur.toList[j]? = some u := by
      rw [List.getElem?_take] at hj
      split at hj
      · exact hj
      · cases hj
    constructor
    · simp only [World.cell?, hh, Nat.zero_add]
      simpa using hj'
    · simp [World.frozen?, hh]

/-! ### writing into a row -/
/-- the cells from ⟨b, o⟩ on now hold vs; all else is as it was -/
structure Wrote (w w' : World) (b o : Nat) (vs : List Value) : Prop where
  os : w'.os = w.os
  tape : w'.tape = w.tape
  output : w'.output = w.output
  size : w'.heap.size = w.heap.size
  block : ∀ k, k ≠ b → w'.heap[k]? = w.heap[k]?
  new_ : ∀ j u, vs[j]? = some u → w'.cell? ⟨b, o + j, none⟩ = some u
  old_ : ∀ k, (k < o ∨ o + vs.length ≤ k) → w'.cell? ⟨b, k, none⟩ = w.cell? ⟨b, k, none⟩
  frozen : ∀ a, w'.frozen? a = w.frozen? a
theorem wrote_setRow (b : Nat) : ∀ (vs : List Value) (o : Nat) (w : World), (∀ j, j < vs.length → ∃ u, w.cell? ⟨b, o + j, none⟩ = some u) → Wrote w (w.setCells b o vs) b o vs
  | [], o, w, _ => ⟨rfl, rfl, rfl, rfl, fun _ _ => rfl, fun j u h => by simp at h, fun _ _ => rfl, fun _ => rfl⟩
  | v :: vs, o, w, h => by
    have h0 : ∃ u, w.cell? ⟨b, o, none⟩ = some u := h 0 (by simp)
    have ho : ∀ k, k ≠ o → (w.setCell ⟨b, o, none⟩ v).cell? ⟨b, k, none⟩ = w.cell? ⟨b, k, none⟩ := fun k hk => World.cell?_setCell_other w ⟨b, o, none⟩ ⟨b, k, none⟩ v (fun e => hk (by injection e with _ e2 _; exact e2.symm))
    have ih := wrote_setRow b vs (o + 1) (w.setCell ⟨b, o, none⟩ v) (fun j hj => by
      obtain ⟨u, hu⟩ := h (j + 1) (by simp; omega)
      exact ⟨u, by rw [ho _ (by omega), ← hu]; congr 2; omega⟩)
    refine ⟨ih.os, ih.tape, ih.output, ih.size.trans (by simp), fun k hk => (ih.block k hk).trans (Below.heap_setCell w _ _ k hk), fun j u hj => ?_, fun k hk => ?_, fun a => (ih.frozen a).trans (World.frozen?_setCell _ _ _ _)⟩
    · cases j with
      | zero =>
        simp at hj; subst hj
        obtain ⟨u, hu⟩ := h0
        exact (ih.old_ o (.inl (by omega))).trans (World.cell?_setCell_same w _ _ hu)
      | succ j =>
        have := ih.new_ j u (by simpa using hj)
        rw [show o + (j + 1) = o + 1 + j by omega]; exact this
    · simp at hk
      refine (ih.old_ k (by omega)).trans (ho k (by omega))
theorem Wrote.agr {w w' : World} {b o : Nat} {vs : List Value} (h : Wrote w w' b o vs) : Agr (· = b) w w' := ⟨h.os, h.tape, h.output, by rw [h.size]; exact Nat.le_refl _, fun k _ hk => h.block k hk⟩
/-- a list after a part of it was written -/
def setL : List Value → Nat → List Value → List Value
  | xs, _, [] => xs
  | xs, q, v :: vs => setL (xs.set q v) (q + 1) vs
theorem setL_len : ∀ (vs xs : List Value) (q : Nat), (setL xs q vs).length = xs.length
  | [], _, _ => rfl
  | v :: vs, xs, q => by simp [setL, setL_len vs]
theorem setL_get : ∀ (vs xs : List Value) (q j : Nat), q + vs.length ≤ xs.length → (setL xs q vs)[j]? = if q ≤ j ∧ j < q + vs.length then vs[j - q]? else xs[j]?
  | [], xs, q, j, _ => by simp [setL]; omega
  | v :: vs, xs, q, j, h => by
    simp at h
    rw [setL, setL_get vs (xs.set q v) (q + 1) j (by simp; omega)]
    by_cases h1 : j = q
    · subst h1
      rw [if_neg (by omega), if_pos (by simp), List.getElem?_set_self (by omega), Nat.sub_self]
      rfl
    · by_cases h2 : q + 1 ≤ j ∧ j < q + 1 + vs.length
      · rw [if_pos h2, if_pos (by simp; omega), show j - q = (j - (q + 1)) + 1 by omega]; simp
      · rw [if_neg h2, if_neg (by simp; omega), List.getElem?_set_ne (by omega)]
theorem setL_right (a : List Value) : ∀ (vs xs : List Value) (q : Nat), setL (a ++ xs) (a.length + q) vs = a ++ setL xs q vs
  | [], _, _ => rfl
  | v :: vs, xs, q => by
    simp only [setL]
    rw [List.set_append_right _ _ (by omega), show a.length + q - a.length = q by omega, show a.length + q + 1 = a.length + (q + 1) by omega]
    exact setL_right a vs (xs.set q v) (q + 1)
theorem Wrote.row {w w' : World} {b o q : Nat} {vs xs : List Value} (h : Wrote w w' b (o + q) vs) (hr : Row w (some ⟨b, o, none⟩) xs) (hq : q + vs.length ≤ xs.length) :
    Row w' (some ⟨b, o, none⟩) (setL xs q vs) := fun hn => by
  have hne : xs ≠ [] := by
    intro e
    have := setL_len vs xs q
    rw [e] at this
    exact hn (by rw [e]; exact List.eq_nil_of_length_eq_zero (by simpa using this))
  obtain ⟨b', o', he, hc⟩ := hr hne
  cases he
  refine ⟨b, o, rfl, fun j u hj => ?_⟩
  have hjl : j < xs.length := by rw [← setL_len vs xs q]; exact (List.getElem?_eq_some_iff.1 hj).1
  have hfz : w.frozen? ⟨b, o + j, none⟩ = false := (hc j _ (List.getElem?_eq_getElem hjl)).2
  refine ⟨?_, (h.frozen _).trans hfz⟩
  rw [setL_get vs xs q j hq] at hj
  split at hj
  · rename_i h1
    have := h.new_ _ u hj
    rw [show o + j = o + q + (j - q) by omega]; exact this
  · exact (h.old_ _ (by omega)).trans (hc j u hj).1
/-- one cell was written; the next is as it was -/
theorem Wrote.more {w w' : World} {b o : Nat} {v u : Value} (h : Wrote w w' b o [v]) (hu : w.cell? ⟨b, o + 1, none⟩ = some u) : Wrote w w' b o [v, u] :=
  ⟨h.os, h.tape, h.output, h.size, h.block, fun j x hj => by
    match j, hj with
    | 0, hj => exact h.new_ 0 x hj
    | 1, hj => simp at hj; subst hj; exact (h.old_ _ (.inr (by simp))).trans hu, fun k hk => h.old_ k (by simp at hk ⊢; omega), h.frozen⟩
/-- .. the one ahead is as it was -/
theorem Wrote.less {w w' : World} {b o : Nat} {v u : Value} (h : Wrote w w' b (o + 1) [v]) (hu : w.cell? ⟨b, o, none⟩ = some u) : Wrote w w' b o [u, v] :=
  ⟨h.os, h.tape, h.output, h.size, h.block, fun j x hj => by
    match j, hj with
    | 0, hj => simp at hj; subst hj; exact (h.old_ _ (.inl (by simp))).trans hu
    | 1, hj => exact h.new_ 0 x hj, fun k hk => h.old_ k (by simp at hk ⊢; omega), h.frozen⟩
theorem wrote_one {w : World} {b o : Nat} {u : Value} (h : w.cell? ⟨b, o, none⟩ = some u) (v : Value) : Wrote w (w.setCell ⟨b, o, none⟩ v) b o [v] :=
  wrote_setRow b [v] o w fun j hj => by
    match j, hj with
    | 0, _ => exact ⟨u, h⟩
/-- a row in another block stays -/
theorem Wrote.far {w w' : World} {b o : Nat} {vs xs : List Value} {A : Option Addr} (h : Wrote w w' b o vs) (hr : Row w A xs) (hne : ¬ blk A b) : Row w' A xs :=
  hr.keep fun c hc _ => h.block c (fun e => hne (e ▸ hc))
/-- 'copy(dst, src)', elements of any number of cells -/
theorem run_copy_n {P : Program} (w : World) (dT sT ty elem : TypeId) (size b o dLen dCap : Nat) (a : Addr) (sLen sCap n : Nat) (cs : List Value)
    (hu : P.underlying dT = some (.slice elem)) (hs : (P.info? elem).map (·.size) = some size) (hn : Nat.min sLen dLen = n) (hl : cs.length = n * size)
    (hsrc : ∀ j v, cs[j]? = some v → w.cell? (a.add j) = some v) (hc : ∀ j, j < cs.length → (w.cell? ⟨b, o + j, none⟩).isSome = true) (hf : ∀ j, j < cs.length → w.frozen? ⟨b, o + j, none⟩ = false) (h1 : ∀ v ∈ cs, v.oneCell' = true) :
    (Builtin.copy_ #[dT, sT] ty #[.slice (some ⟨b, o, none⟩) dLen dCap, .slice (some a) sLen sCap]).run P w = .ok (goInt n) (w.setCells b o cs) := by
  have hl' := run_loadCells_list (P := P) w a cs hsrc
  have hst := run_storeCells_cells (P := P) b o cs 0 w (by simpa using hc) (by simpa using hf) h1
  cases hq : P.info? elem with
  | none => simp [hq] at hs
  | some i =>
    have hi : i.size = size := by simpa [hq] using hs
    simp [Builtin.copy_, run_underlying hu, Builtin.lenOf, Builtin.firstCells, sizeOf, typeInfo, hq, hi, hn, ← hl, hl', hst]
theorem addr_add (b o j : Nat) : (⟨b, o, none⟩ : Addr).add j = ⟨b, o + j, none⟩ := by unfold Addr.add; split <;> simp_all
end Go.Proofs.Ytlchlhjjoddocaa
