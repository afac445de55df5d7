/- What the laws' walks share: words, plain laws, and the walks of functions, part 1. -/
import Derived.WalkKit
import Derived.KernelRfl
import Derived.Below
import Derived.Deep.Draws
import Derived.Lib.Hide
import Derived.Laws.IdiomCopy
import Derived.Maps.OwnOps
import Derived.Maps.OwnSet
import Derived.Maps.Views
import Derived.Test.YtohkoogmbfaceaaGreatProg
import Derived.BigQuiet
import Derived.Deep.QuietTactic
import Derived.Deep.LoopGhost
import Derived.WideLaws
import Derived.LaidEql
import Derived.RegionTactic
import Derived.ChangeAlike
import Derived.Outline
import Derived.Deep.RegionHeld3
import Derived.StillTailTactics
import Derived.Deep.RegionLaw
import Derived.Deep.RegionWith
import Derived.RangeFuncNested
import Derived.RangeFuncBound
import Derived.RangeFuncCalls
import Derived.RangeFuncLeaves
import Derived.Shelf.Abstract
import Derived.Shelf.RegionOpen
import Derived.OwnWalkIn
import Derived.TacticsInMore
import Derived.LoopNIn
import Derived.LoopIn
import Derived.Deep.AppendLies
import Derived.OrdersHeld
namespace Go.Proofs.YtohkoogmbfaceaaGreat
set_option linter.unusedVariables false
set_option linter.unusedSimpArgs false
open Go.RowKit

/-! ### plain data -/
structure Rc where
  kind : Int
  seq : Int
  addr : Int
  val : Int
deriving DecidableEq, Repr
structure Pg where
  state : Int
  rc : Rc
deriving DecidableEq, Repr
structure Bk where
  pages : List Pg
  worn : Int
deriving DecidableEq, Repr
structure St where
  flash : List Bk
  disk : List Int
deriving DecidableEq, Repr
structure Sp where
  kind : Int
  addr : Int
  val : Int
  block : Int
  rc : Rc
deriving DecidableEq, Repr
structure Ev where
  kind : Int
  a : Int
  b : Int
  c : Int
  torn : Bool
deriving DecidableEq, Repr

def Rc.vs (r : Rc) : List Value := [.int .i64 r.kind, .int .i64 r.seq, .int .i64 r.addr, .int .i64 r.val]
def Pg.vs (p : Pg) : List Value := [.int .i64 p.state, .int .i64 p.rc.kind, .int .i64 p.rc.seq, .int .i64 p.rc.addr, .int .i64 p.rc.val]
def Sp.vs (s : Sp) : List Value := [.int .i64 s.kind, .int .i64 s.addr, .int .i64 s.val, .int .i64 s.block, .int .i64 s.rc.kind, .int .i64 s.rc.seq, .int .i64 s.rc.addr, .int .i64 s.rc.val]
def Ev.vs (e : Ev) : List Value := [.int .i64 e.kind, .int .i64 e.a, .int .i64 e.b, .int .i64 e.c, .bool e.torn]
def pgs (ps : List Pg) : List Value := ps.flatMap Pg.vs
def sps (ss : List Sp) : List Value := ss.flatMap Sp.vs
def evs (es : List Ev) : List Value := es.flatMap Ev.vs
def ints (xs : List Int) : List Value := xs.map (Value.int .i64)
def rc0 : Rc := ⟨0, 0, 0, 0⟩

/-! ### small things -/
theorem ret_bool {a b : Bool} (h : a = b) : Ending.returned (.bool a) = .returned (.bool b) := by rw [h]
theorem ret_int {a b : Int} (h : a = b) : Ending.returned (.int .i64 a) = .returned (.int .i64 b) := by rw [h]
theorem ret_sl {A : Option Addr} {n m c : Nat} {b : Bool} (h : n = m) : Ending.returned (.tuple #[.slice A n c, .bool b]) = .returned (.tuple #[.slice A m c, .bool b]) := by rw [h]
theorem drop_cons {α : Type} {l : List α} {k : Nat} {x : α} (h : l[k]? = some x) : l.drop k = x :: l.drop (k + 1) := by
  obtain ⟨hlt, rfl⟩ := List.getElem?_eq_some_iff.1 h
  exact List.drop_eq_getElem_cons hlt
theorem get_some {α : Type} {l : List α} {k : Nat} (h : k < l.length) : ∃ x, l[k]? = some x := ⟨_, List.getElem?_eq_getElem h⟩
theorem flat_get {α : Type} (g : α → List Value) (m : Nat) (hg : ∀ x, (g x).length = m) : ∀ (l : List α) (k j : Nat) (x : α), l[k]? = some x → j < m → (l.flatMap g)[k * m + j]? = (g x)[j]?
  | [], _, _, _, h, _ => by simp at h
  | y :: l, 0, j, x, h, hj => by
    simp at h; subst h
    simp only [List.flatMap_cons, Nat.zero_mul, Nat.zero_add]
    rw [List.getElem?_append_left (by rw [hg]; exact hj)]
  | y :: l, k + 1, j, x, h, hj => by
    simp only [List.flatMap_cons]
    rw [List.getElem?_append_right (by rw [hg, Nat.succ_mul]; omega), hg, show (k + 1) * m + j - m = k * m + j by rw [Nat.succ_mul]; omega]
    exact flat_get g m hg l k j x (by simpa using h) hj
theorem flat_len {α : Type} (g : α → List Value) (m : Nat) (hg : ∀ x, (g x).length = m) : ∀ l : List α, (l.flatMap g).length = l.length * m
  | [] => by simp
  | y :: l => by simp only [List.flatMap_cons, List.length_append, hg, List.length_cons, flat_len g m hg l, Nat.succ_mul]; omega
theorem pgs_len (l : List Pg) : (pgs l).length = l.length * 5 := flat_len _ 5 (fun _ => rfl) l
theorem sps_len (l : List Sp) : (sps l).length = l.length * 8 := flat_len _ 8 (fun _ => rfl) l
theorem evs_len (l : List Ev) : (evs l).length = l.length * 5 := flat_len _ 5 (fun _ => rfl) l
theorem ints_len (l : List Int) : (ints l).length = l.length := by simp [ints]

/-! ### worlds: what may have turned -/
/-- of what lay in w, only blocks in S may have turned -/
structure Agr (S : Nat → Prop) (w w' : World) : Prop where
  os : w'.os = w.os
  tape : w'.tape = w.tape
  output : w'.output = w.output
  size : w.heap.size ≤ w'.heap.size
  block : ∀ k, k < w.heap.size → ¬ S k → w'.heap[k]? = w.heap[k]?
theorem Agr.refl (S : Nat → Prop) (w : World) : Agr S w w := ⟨rfl, rfl, rfl, Nat.le_refl _, fun _ _ _ => rfl⟩
theorem Agr.trans {S S' : Nat → Prop} {a b c : World} (h : Agr S a b) (k : Agr S' b c) (hs : ∀ i, i < a.heap.size → S' i → S i) : Agr S a c :=
  ⟨k.os.trans h.os, k.tape.trans h.tape, k.output.trans h.output, Nat.le_trans h.size k.size, fun i hi hn => (k.block i (Nat.lt_of_lt_of_le hi h.size) (fun x => hn (hs i hi x))).trans (h.block i hi hn)⟩
theorem Agr.of_below {S : Nat → Prop} {a b : World} (h : Below a.heap.size a b) : Agr S a b := ⟨h.os, h.tape, h.output, h.size, fun i hi _ => h.block i hi⟩
theorem Agr.mono {S S' : Nat → Prop} {a b : World} (h : Agr S a b) (hs : ∀ i, S i → S' i) : Agr S' a b := ⟨h.os, h.tape, h.output, h.size, fun i hi hn => h.block i hi (fun x => hn (hs i x))⟩
theorem Agr.below {S : Nat → Prop} {a b : World} {B : Nat} (h : Agr S a b) (hB : B ≤ a.heap.size) (hs : ∀ i, S i → B ≤ i) : Below B a b :=
  ⟨h.os, h.tape, h.output, h.size, fun i hi => h.block i (by omega) (fun x => by have := hs i x; omega)⟩
theorem Agr.alloc {S : Nat → Prop} {a w : World} (h : Agr S a w) (o : Obj) : Agr S a (w.alloc o) :=
  ⟨h.os, h.tape, h.output, Nat.le_trans h.size (by simp), fun i hi hn => (Below.heap_alloc w o i (Nat.lt_of_lt_of_le hi h.size)).trans (h.block i hi hn)⟩
theorem Agr.drew {S : Nat → Prop} {a w : World} (h : Agr S a w) : Agr S a w.drew := ⟨h.os, h.tape, h.output, h.size, h.block⟩
theorem Agr.drewN {S : Nat → Prop} {a w : World} (h : Agr S a w) (n : Nat) : Agr S a (w.drewN n) := ⟨h.os, h.tape, h.output, h.size, h.block⟩
theorem Agr.setCell {S : Nat → Prop} {a w : World} (h : Agr S a w) {p : Addr} (hp : a.heap.size ≤ p.block ∨ S p.block) (u : Value) : Agr S a (w.setCell p u) :=
  ⟨h.os, h.tape, h.output, by simpa [World.setCell] using h.size, fun i hi hn => (Below.heap_setCell w p u i (by
    rintro rfl
    rcases hp with hp | hp
    · omega
    · exact hn hp)).trans (h.block i hi hn)⟩
theorem Agr.grown {S : Nat → Prop} {a w w' : World} {row : Option Nat} (h : Agr S a w) (hg : w.grownBy w' row) (hr : ∀ g, row = some g → a.heap.size ≤ g ∨ S g) : Agr S a w' :=
  ⟨hg.os.trans h.os, hg.tape.trans h.tape, hg.output.trans h.output, Nat.le_trans h.size hg.size, fun i hi hn => (hg.block i (Nat.lt_of_lt_of_le hi h.size) (fun e => by
    rcases hr i e.symm with hp | hp
    · omega
    · exact hn hp)).trans (h.block i hi hn)⟩

theorem Agr.cell {S : Nat → Prop} {a w : World} (h : Agr S a w) {b : Nat} (hb : b < a.heap.size) (hs : ¬ S b) (i : Nat) : w.cell? ⟨b, i, none⟩ = a.cell? ⟨b, i, none⟩ := World.cell?_of_block (a := ⟨b, i, none⟩) (h.block b hb hs)
theorem Agr.fz {S : Nat → Prop} {a w : World} (h : Agr S a w) {b : Nat} (hb : b < a.heap.size) (hs : ¬ S b) (i : Nat) : w.frozen? ⟨b, i, none⟩ = a.frozen? ⟨b, i, none⟩ := World.frozen?_of_block (a := ⟨b, i, none⟩) (h.block b hb hs)

theorem undrew {w w' : World} (h : Below w.drew.heap.size w.drew w') : Below w.heap.size w w' := ⟨h.os, h.tape, h.output, h.size, h.block⟩
theorem bcell {W w1 : World} (hb : Below W.heap.size W w1) : (∀ b o, b < W.heap.size → w1.cell? ⟨b, o, none⟩ = W.cell? ⟨b, o, none⟩) ∧ (∀ b o, b < W.heap.size → w1.frozen? ⟨b, o, none⟩ = W.frozen? ⟨b, o, none⟩) :=
  ⟨fun b o h => hb.cell (p := ⟨b, o, none⟩) h, fun b o h => hb.frozen (p := ⟨b, o, none⟩) h⟩

/-! ### a row of cells -/
/-- the cells vs lie at A, none frozen -/
def Row (w : World) (A : Option Addr) (vs : List Value) : Prop :=
  vs ≠ [] → ∃ b o, A = some ⟨b, o, none⟩ ∧ ∀ j u, vs[j]? = some u → w.cell? ⟨b, o + j, none⟩ = some u ∧ w.frozen? ⟨b, o + j, none⟩ = false
/-- the block of an address -/
def blk (A : Option Addr) (b : Nat) : Prop := A.map Addr.block = some b
theorem blk_some {b o c : Nat} : blk (some ⟨b, o, none⟩) c ↔ b = c := by simp [blk]
theorem lt_of_cell {w : World} {b o : Nat} {u : Value} (h : w.cell? ⟨b, o, none⟩ = some u) : b < w.heap.size := by
  have := World.block_lt_of_cell? (w := w) (a := ⟨b, o, none⟩) (h := h)
  exact this
theorem Row.nil (w : World) (A : Option Addr) : Row w A [] := fun h => absurd rfl h
theorem Row.keep {w w' : World} {A : Option Addr} {vs : List Value} (h : Row w A vs) (hk : ∀ b, blk A b → b < w.heap.size → w'.heap[b]? = w.heap[b]?) : Row w' A vs := fun hn => by
  obtain ⟨b, o, rfl, hc⟩ := h hn
  refine ⟨b, o, rfl, fun j u hj => ?_⟩
  obtain ⟨h1, h2⟩ := hc j u hj
  have hb := hk b rfl (lt_of_cell h1)
  exact ⟨(World.cell?_of_block (a := ⟨b, o + j, none⟩) hb).trans h1, (World.frozen?_of_block (a := ⟨b, o + j, none⟩) hb).trans h2⟩
theorem Row.below {w w' : World} {A : Option Addr} {vs : List Value} {B : Nat} (h : Row w A vs) (hb : Below B w w') (hB : w.heap.size ≤ B) : Row w' A vs :=
  h.keep fun b _ hl => hb.block b (by omega)
theorem Row.agr {w w' : World} {A : Option Addr} {vs : List Value} {S : Nat → Prop} (h : Row w A vs) (hb : Agr S w w') (hS : ∀ b, blk A b → ¬ S b) : Row w' A vs :=
  h.keep fun b hA hl => hb.block b hl (hS b hA)
theorem Row.alloc {w : World} {A : Option Addr} {vs : List Value} (h : Row w A vs) (o : Obj) : Row (w.alloc o) A vs := h.keep fun b _ hl => Below.heap_alloc w o b hl
theorem Row.new (w : World) (cs : Array Value) (t : TypeId) : Row (w.alloc (.cells cs t)) (some ⟨w.heap.size, 0, none⟩) cs.toList := fun _ =>
  ⟨_, _, rfl, fun j u hj => ⟨by simpa using hj, by simp⟩⟩
theorem Row.drew {w : World} {A : Option Addr} {vs : List Value} (h : Row w A vs) : Row w.drew A vs := h
theorem Row.drewN {w : World} {A : Option Addr} {vs : List Value} (h : Row w A vs) (n : Nat) : Row (w.drewN n) A vs := h
theorem Row.at_ {w : World} {A : Option Addr} {vs : List Value} (h : Row w A vs) (hn : vs ≠ []) : ∃ b o, A = some ⟨b, o, none⟩ ∧ ∀ j u, vs[j]? = some u → w.cell? ⟨b, o + j, none⟩ = some u ∧ w.frozen? ⟨b, o + j, none⟩ = false := h hn
theorem Row.lt {w : World} {A : Option Addr} {vs : List Value} (h : Row w A vs) (hn : vs ≠ []) {b : Nat} (hb : blk A b) : b < w.heap.size := by
  obtain ⟨b', o, rfl, hc⟩ := h hn
  cases hb
  cases vs with
  | nil => exact absurd rfl hn
  | cons v vs => exact lt_of_cell (hc 0 v rfl).1
theorem Row.of_own {w : World} {base n : Nat} {e : TypeId} {size c : Nat} {A : Option Addr} {vs : List Value} (h : w.ownsRow base e size (.slice A n c) n vs) : Row w A vs := fun hn => by
  obtain ⟨hl, ⟨hv, _⟩ | ⟨g, cap, cur, hv, hb, hh, hnc, hm, hs, ht⟩⟩ := h
  · rename_i hz
    subst hz
    exact absurd (List.eq_nil_of_length_eq_zero (by rw [hl, Nat.zero_mul])) hn
  · cases hv
    refine ⟨g, 0, rfl, fun j u hj => ?_⟩
    rw [← ht] at hj
    have hj' : cur.toList[j]? = some u := by
      rw [List.getElem?_take] at hj
      split at hj
      · exact hj
      · cases hj
    constructor
    · simp only [World.cell?, hh, Nat.zero_add]
      simpa using hj'
    · simp [World.frozen?, hh]

/-! ### writing into a row -/
/-- the cells from ⟨b, o⟩ on now hold vs; all else is as it was -/
structure Wrote (w w' : World) (b o : Nat) (vs : List Value) : Prop where
  os : w'.os = w.os
  tape : w'.tape = w.tape
  output : w'.output = w.output
  size : w'.heap.size = w.heap.size
  block : ∀ k, k ≠ b → w'.heap[k]? = w.heap[k]?
  new_ : ∀ j u, vs[j]? = some u → w'.cell? ⟨b, o + j, none⟩ = some u
  old_ : ∀ k, (k < o ∨ o + vs.length ≤ k) → w'.cell? ⟨b, k, none⟩ = w.cell? ⟨b, k, none⟩
  frozen : ∀ a, w'.frozen? a = w.frozen? a
theorem wrote_setRow (b : Nat) : ∀ (vs : List Value) (o : Nat) (w : World), (∀ j, j < vs.length → ∃ u, w.cell? ⟨b, o + j, none⟩ = some u) → Wrote w (w.setCells b o vs) b o vs
  | [], o, w, _ => ⟨rfl, rfl, rfl, rfl, fun _ _ => rfl, fun j u h => by simp at h, fun _ _ => rfl, fun _ => rfl⟩
  | v :: vs, o, w, h => by
    have h0 : ∃ u, w.cell? ⟨b, o, none⟩ = some u := h 0 (by simp)
    have ho : ∀ k, k ≠ o → (w.setCell ⟨b, o, none⟩ v).cell? ⟨b, k, none⟩ = w.cell? ⟨b, k, none⟩ := fun k hk => World.cell?_setCell_other w ⟨b, o, none⟩ ⟨b, k, none⟩ v (fun e => hk (by injection e with _ e2 _; exact e2.symm))
    have ih := wrote_setRow b vs (o + 1) (w.setCell ⟨b, o, none⟩ v) (fun j hj => by
      obtain ⟨u, hu⟩ := h (j + 1) (by simp; omega)
      exact ⟨u, by rw [ho _ (by omega), ← hu]; congr 2; omega⟩)
    refine ⟨ih.os, ih.tape, ih.output, ih.size.trans (by simp), fun k hk => (ih.block k hk).trans (Below.heap_setCell w _ _ k hk), fun j u hj => ?_, fun k hk => ?_, fun a => (ih.frozen a).trans (World.frozen?_setCell _ _ _ _)⟩
    · cases j with
      | zero =>
        simp at hj; subst hj
        obtain ⟨u, hu⟩ := h0
        exact (ih.old_ o (.inl (by omega))).trans (World.cell?_setCell_same w _ _ hu)
      | succ j =>
        have := ih.new_ j u (by simpa using hj)
        rw [show o + (j + 1) = o + 1 + j by omega]; exact this
    · simp at hk
      refine (ih.old_ k (by omega)).trans (ho k (by omega))
theorem Wrote.agr {w w' : World} {b o : Nat} {vs : List Value} (h : Wrote w w' b o vs) : Agr (· = b) w w' := ⟨h.os, h.tape, h.output, by rw [h.size]; exact Nat.le_refl _, fun k _ hk => h.block k hk⟩
/-- a list after a part of it was written -/
def setL : List Value → Nat → List Value → List Value
  | xs, _, [] => xs
  | xs, q, v :: vs => setL (xs.set q v) (q + 1) vs
theorem setL_len : ∀ (vs xs : List Value) (q : Nat), (setL xs q vs).length = xs.length
  | [], _, _ => rfl
  | v :: vs, xs, q => by simp [setL, setL_len vs]
theorem setL_get : ∀ (vs xs : List Value) (q j : Nat), q + vs.length ≤ xs.length → (setL xs q vs)[j]? = if q ≤ j ∧ j < q + vs.length then vs[j - q]? else xs[j]?
  | [], xs, q, j, _ => by simp [setL]; omega
  | v :: vs, xs, q, j, h => by
    simp at h
    rw [setL, setL_get vs (xs.set q v) (q + 1) j (by simp; omega)]
    by_cases h1 : j = q
    · subst h1
      rw [if_neg (by omega), if_pos (by simp), List.getElem?_set_self (by omega), Nat.sub_self]
      rfl
    · by_cases h2 : q + 1 ≤ j ∧ j < q + 1 + vs.length
      · rw [if_pos h2, if_pos (by simp; omega), show j - q = (j - (q + 1)) + 1 by omega]; simp
      · rw [if_neg h2, if_neg (by simp; omega), List.getElem?_set_ne (by omega)]
theorem setL_right (a : List Value) : ∀ (vs xs : List Value) (q : Nat), setL (a ++ xs) (a.length + q) vs = a ++ setL xs q vs
  | [], _, _ => rfl
  | v :: vs, xs, q => by
    simp only [setL]
    rw [List.set_append_right _ _ (by omega), show a.length + q - a.length = q by omega, show a.length + q + 1 = a.length + (q + 1) by omega]
    exact setL_right a vs (xs.set q v) (q + 1)
theorem Wrote.row {w w' : World} {b o q : Nat} {vs xs : List Value} (h : Wrote w w' b (o + q) vs) (hr : Row w (some ⟨b, o, none⟩) xs) (hq : q + vs.length ≤ xs.length) :
    Row w' (some ⟨b, o, none⟩) (setL xs q vs) := fun hn => by
  have hne : xs ≠ [] := by
    intro e
    have := setL_len vs xs q
    rw [e] at this
    exact hn (by rw [e]; exact List.eq_nil_of_length_eq_zero (by simpa using this))
  obtain ⟨b', o', he, hc⟩ := hr hne
  cases he
  refine ⟨b, o, rfl, fun j u hj => ?_⟩
  have hjl : j < xs.length := by rw [← setL_len vs xs q]; exact (List.getElem?_eq_some_iff.1 hj).1
  have hfz : w.frozen? ⟨b, o + j, none⟩ = false := (hc j _ (List.getElem?_eq_getElem hjl)).2
  refine ⟨?_, (h.frozen _).trans hfz⟩
  rw [setL_get vs xs q j hq] at hj
  split at hj
  · rename_i h1
    have := h.new_ _ u hj
    rw [show o + j = o + q + (j - q) by omega]; exact this
  · exact (h.old_ _ (by omega)).trans (hc j u hj).1
/-- one cell was written; the next is as it was -/
theorem Wrote.more {w w' : World} {b o : Nat} {v u : Value} (h : Wrote w w' b o [v]) (hu : w.cell? ⟨b, o + 1, none⟩ = some u) : Wrote w w' b o [v, u] :=
  ⟨h.os, h.tape, h.output, h.size, h.block, fun j x hj => by
    match j, hj with
    | 0, hj => exact h.new_ 0 x hj
    | 1, hj => simp at hj; subst hj; exact (h.old_ _ (.inr (by simp))).trans hu, fun k hk => h.old_ k (by simp at hk ⊢; omega), h.frozen⟩
/-- .. the one ahead is as it was -/
theorem Wrote.less {w w' : World} {b o : Nat} {v u : Value} (h : Wrote w w' b (o + 1) [v]) (hu : w.cell? ⟨b, o, none⟩ = some u) : Wrote w w' b o [u, v] :=
  ⟨h.os, h.tape, h.output, h.size, h.block, fun j x hj => by
    match j, hj with
    | 0, hj => simp at hj; subst hj; exact (h.old_ _ (.inl (by simp))).trans hu
    | 1, hj => exact h.new_ 0 x hj, fun k hk => h.old_ k (by simp at hk ⊢; omega), h.frozen⟩
theorem wrote_one {w : World} {b o : Nat} {u : Value} (h : w.cell? ⟨b, o, none⟩ = some u) (v : Value) : Wrote w (w.setCell ⟨b, o, none⟩ v) b o [v] :=
  wrote_setRow b [v] o w fun j hj => by
    match j, hj with
    | 0, _ => exact ⟨u, h⟩
/-- a row in another block stays -/
theorem Wrote.far {w w' : World} {b o : Nat} {vs xs : List Value} {A : Option Addr} (h : Wrote w w' b o vs) (hr : Row w A xs) (hne : ¬ blk A b) : Row w' A xs :=
  hr.keep fun c hc _ => h.block c (fun e => hne (e ▸ hc))
/-- 'copy(dst, src)', elements of any number of cells -/
theorem run_copy_n {P : Program} (w : World) (dT sT ty elem : TypeId) (size b o dLen dCap : Nat) (a : Addr) (sLen sCap n : Nat) (cs : List Value)
    (hu : P.underlying dT = some (.slice elem)) (hs : (P.info? elem).map (·.size) = some size) (hn : Nat.min sLen dLen = n) (hl : cs.length = n * size)
    (hsrc : ∀ j v, cs[j]? = some v → w.cell? (a.add j) = some v) (hc : ∀ j, j < cs.length → (w.cell? ⟨b, o + j, none⟩).isSome = true) (hf : ∀ j, j < cs.length → w.frozen? ⟨b, o + j, none⟩ = false) (h1 : ∀ v ∈ cs, v.oneCell' = true) :
    (Builtin.copy_ #[dT, sT] ty #[.slice (some ⟨b, o, none⟩) dLen dCap, .slice (some a) sLen sCap]).run P w = .ok (goInt n) (w.setCells b o cs) := by
  have hl' := run_loadCells_list (P := P) w a cs hsrc
  have hst := run_storeCells_cells (P := P) b o cs 0 w (by simpa using hc) (by simpa using hf) h1
  cases hq : P.info? elem with
  | none => simp [hq] at hs
  | some i =>
    have hi : i.size = size := by simpa [hq] using hs
    simp [Builtin.copy_, run_underlying hu, Builtin.lenOf, Builtin.firstCells, sizeOf, typeInfo, hq, hi, hn, ← hl, hl', hst]
theorem addr_add (b o j : Nat) : (⟨b, o, none⟩ : Addr).add j = ⟨b, o + j, none⟩ := by unfold Addr.add; split <;> simp_all
end Go.Proofs.YtohkoogmbfaceaaGreat
namespace Go.Proofs.YtohkoogmbfaceaaGreat
set_option linter.unusedVariables false
set_option linter.unusedSimpArgs false
def addrB (a : Int) : Bool := decide (1 ≤ a) && decide (a ≤ 6)
def valB (a : Int) : Bool := decide (0 ≤ a) && decide (a ≤ 9)
def kindB (k : Int) : Bool := decide (k = 1) || decide (k = 2)
def recOk (r : Rc) : Bool := kindB r.kind && (decide (1 ≤ r.seq) && (decide (r.seq ≤ 600) && (addrB r.addr && valB r.val)))
def pageOk (p : Pg) : Bool := if p.state = 1 then recOk p.rc else if p.state = 0 ∨ p.state = 2 then decide (p.rc = rc0) else false
def blockB (b : Int) : Bool := decide (0 ≤ b) && decide (b < 4)
def shapeGo : Bool → List Pg → Bool
  | _, [] => true
  | free, p :: ps => if (free && (p.state != 0)) = true then false else shapeGo (p.state == 0) ps
def blockShape (b : Bk) : Bool := decide (b.pages.length = 4) && (decide (0 ≤ b.worn) && (decide (b.worn ≤ 200) && shapeGo false b.pages))
/-- the pages of a block, the numbers met so far; then what follows -/
def pagesGo : List Int → (List Int → Bool) → List Pg → Bool
  | seen, k, [] => k seen
  | seen, k, p :: ps => if pageOk p = false then false else if p.state ≠ 1 then pagesGo seen k ps else if p.rc.seq ∈ seen then false else pagesGo (p.rc.seq :: seen) k ps
def blocksGo : List Int → List Bk → Bool
  | _, [] => true
  | seen, b :: bs => if blockShape b = false then false else pagesGo seen (fun s => blocksGo s bs) b.pages
def flashOk (f : List Bk) : Bool := decide (f.length = 4) && blocksGo [] f
theorem pagesGo_true {k : List Int → Bool} : ∀ {ps : List Pg} {seen : List Int}, pagesGo seen k ps = true → (∃ s, k s = true) ∧ ∀ p ∈ ps, pageOk p = true
  | [], seen, h => ⟨⟨seen, h⟩, by simp⟩
  | p :: ps, seen, h => by
    unfold pagesGo at h
    by_cases h1 : pageOk p = false
    · simp [h1] at h
    · rw [if_neg h1] at h
      have h1' : pageOk p = true := by simpa using h1
      have key : ∀ s, pagesGo s k ps = true → (∃ s, k s = true) ∧ ∀ q ∈ p :: ps, pageOk q = true := fun s hs => by
        obtain ⟨a, b⟩ := pagesGo_true hs
        exact ⟨a, by intro q hq; rcases List.mem_cons.1 hq with rfl | hq; exact h1'; exact b q hq⟩
      by_cases h2 : p.state ≠ 1
      · rw [if_pos h2] at h; exact key _ h
      · rw [if_neg h2] at h
        by_cases h3 : p.rc.seq ∈ seen
        · simp [h3] at h
        · rw [if_neg h3] at h; exact key _ h
theorem blocksGo_true : ∀ {f : List Bk} {seen : List Int}, blocksGo seen f = true → ∀ b ∈ f, blockShape b = true ∧ ∀ p ∈ b.pages, pageOk p = true
  | [], _, _ => by simp
  | b :: f, seen, h => by
    unfold blocksGo at h
    by_cases h1 : blockShape b = false
    · simp [h1] at h
    · rw [if_neg h1] at h
      obtain ⟨⟨s, hs⟩, hp⟩ := pagesGo_true h
      have ih := blocksGo_true hs
      intro c hc
      rcases List.mem_cons.1 hc with rfl | hc
      · exact ⟨by simpa using h1, hp⟩
      · exact ih c hc
theorem flashOk_len {f : List Bk} (h : flashOk f = true) : f.length = 4 := by unfold flashOk at h; simp at h; exact h.1
theorem flashOk_shape {f : List Bk} (h : flashOk f = true) : ∀ b ∈ f, b.pages.length = 4 ∧ 0 ≤ b.worn ∧ b.worn ≤ 200 := by
  unfold flashOk at h
  simp at h
  intro b hb
  have := (blocksGo_true h.2 b hb).1
  unfold blockShape at this
  simp at this
  exact ⟨this.1, this.2.1, this.2.2.1⟩
end Go.Proofs.YtohkoogmbfaceaaGreat
namespace Go.Proofs.YtohkoogmbfaceaaGreat
set_option linter.unusedVariables false
set_option linter.unusedSimpArgs false
open Go.RowKit

/-- a page's five cells -/
theorem Row.pg {w : World} {b o k : Nat} {ps : List Pg} {p : Pg} (h : Row w (some ⟨b, o, none⟩) (pgs ps)) (hk : ps[k]? = some p) :
    w.cell? ⟨b, o + k * 5, none⟩ = some (.int .i64 p.state) ∧ w.cell? ⟨b, o + k * 5 + 1, none⟩ = some (.int .i64 p.rc.kind) ∧ w.cell? ⟨b, o + k * 5 + 2, none⟩ = some (.int .i64 p.rc.seq) ∧
      w.cell? ⟨b, o + k * 5 + 3, none⟩ = some (.int .i64 p.rc.addr) ∧ w.cell? ⟨b, o + k * 5 + 4, none⟩ = some (.int .i64 p.rc.val) := by
  have hlt := (List.getElem?_eq_some_iff.1 hk).1
  obtain ⟨b', o', he, hc⟩ := h (by intro e; have := pgs_len ps; rw [e] at this; simp at this; omega)
  cases he
  have hg : ∀ j u, p.vs[j]? = some u → j < 5 → w.cell? ⟨b, o + (k * 5 + j), none⟩ = some u := fun j u hj hl => (hc (k * 5 + j) u (by rw [pgs, flat_get _ 5 (fun _ => rfl) ps k j p hk hl]; exact hj)).1
  exact ⟨hg 0 _ rfl (by omega), hg 1 _ rfl (by omega), hg 2 _ rfl (by omega), hg 3 _ rfl (by omega), hg 4 _ rfl (by omega)⟩
theorem Row.pgf {w : World} {b o k : Nat} {ps : List Pg} {p : Pg} (h : Row w (some ⟨b, o, none⟩) (pgs ps)) (hk : ps[k]? = some p) :
    w.frozen? ⟨b, o + k * 5, none⟩ = false ∧ w.frozen? ⟨b, o + k * 5 + 1, none⟩ = false ∧ w.frozen? ⟨b, o + k * 5 + 2, none⟩ = false ∧
      w.frozen? ⟨b, o + k * 5 + 3, none⟩ = false ∧ w.frozen? ⟨b, o + k * 5 + 4, none⟩ = false := by
  have hlt := (List.getElem?_eq_some_iff.1 hk).1
  obtain ⟨b', o', he, hc⟩ := h (by intro e; have := pgs_len ps; rw [e] at this; simp at this; omega)
  cases he
  have hg : ∀ j u, p.vs[j]? = some u → j < 5 → w.frozen? ⟨b, o + (k * 5 + j), none⟩ = false := fun j u hj hl => (hc (k * 5 + j) u (by rw [pgs, flat_get _ 5 (fun _ => rfl) ps k j p hk hl]; exact hj)).2
  exact ⟨hg 0 _ rfl (by omega), hg 1 _ rfl (by omega), hg 2 _ rfl (by omega), hg 3 _ rfl (by omega), hg 4 _ rfl (by omega)⟩
theorem Row.int_ {w : World} {b o k : Nat} {xs : List Int} {x : Int} (h : Row w (some ⟨b, o, none⟩) (ints xs)) (hk : xs[k]? = some x) :
    w.cell? ⟨b, o + k, none⟩ = some (.int .i64 x) ∧ w.frozen? ⟨b, o + k, none⟩ = false := by
  have hlt := (List.getElem?_eq_some_iff.1 hk).1
  obtain ⟨b', o', he, hc⟩ := h (by intro e; have := ints_len xs; rw [e] at this; simp at this; omega)
  cases he
  exact hc k _ (by simp [ints, hk])
theorem Row.news {w : World} {b o : Nat} {vs : List Value} (h : Row w (some ⟨b, o, none⟩) vs) : ∀ j u, vs[j]? = some u → w.cell? ((⟨b, o, none⟩ : Addr).add j) = some u := fun j u hj => by
  obtain ⟨b', o', he, hc⟩ := h (by intro e; rw [e] at hj; cases hj)
  cases he
  rw [addr_add]
  exact (hc j u hj).1
theorem Row.addr {w : World} {A : Option Addr} {vs : List Value} (h : Row w A vs) (hn : vs ≠ []) : ∃ b o, A = some ⟨b, o, none⟩ := by
  obtain ⟨b, o, rfl, _⟩ := h hn; exact ⟨b, o, rfl⟩
theorem pgs_ne {ps : List Pg} (h : ps ≠ []) : pgs ps ≠ [] := by
  cases ps with
  | nil => exact absurd rfl h
  | cons p ps => simp [pgs, Pg.vs]

/-- the headers of blocks: where each one's pages lie, how many there are, its wear -/
def hdrs : List Bk → List (Option Addr × Nat) → List Value
  | b :: f, h :: hs => .slice h.1 b.pages.length h.2 :: .int .i64 b.worn :: hdrs f hs
  | _, _ => []
theorem hdrs_len : ∀ (f : List Bk) (hs : List (Option Addr × Nat)), hs.length = f.length → (hdrs f hs).length = f.length * 2
  | [], _, _ => by simp [hdrs]
  | b :: f, [], h => by simp at h
  | b :: f, x :: hs, h => by
    simp only [hdrs, List.length_cons]
    rw [hdrs_len f hs (by simpa using h)]; omega
theorem hdrs_get : ∀ (f : List Bk) (hs : List (Option Addr × Nat)) (i : Nat) (b : Bk) (x : Option Addr × Nat), f[i]? = some b → hs[i]? = some x →
    (hdrs f hs)[i * 2]? = some (.slice x.1 b.pages.length x.2) ∧ (hdrs f hs)[i * 2 + 1]? = some (.int .i64 b.worn)
  | [], _, _, _, _, h, _ => by simp at h
  | _ :: _, [], _, _, _, _, h => by simp at h
  | b :: f, x :: hs, 0, b', x', h, h' => by simp at h h'; subst h; subst h'; simp [hdrs]
  | b :: f, x :: hs, i + 1, b', x', h, h' => by
    have ih := hdrs_get f hs i b' x' (by simpa using h) (by simpa using h')
    rw [show (i + 1) * 2 = i * 2 + 1 + 1 by omega]
    simpa [hdrs] using ih
theorem hdrs_append : ∀ (f g : List Bk) (hs ks : List (Option Addr × Nat)), hs.length = f.length → hdrs (f ++ g) (hs ++ ks) = hdrs f hs ++ hdrs g ks
  | [], g, [], ks, _ => by simp [hdrs]
  | [], g, _ :: _, ks, h => by simp at h
  | b :: f, g, [], ks, h => by simp at h
  | b :: f, g, x :: hs, ks, h => by simp [hdrs, hdrs_append f g hs ks (by simpa using h)]

/-- a flash that can be read: hs says where the pages lie -/
structure Bks (w : World) (A : Option Addr) (f : List Bk) (hs : List (Option Addr × Nat)) : Prop where
  len : hs.length = f.length
  row : Row w A (hdrs f hs)
  pg : ∀ (i : Nat) (b : Bk) (x : Option Addr × Nat), f[i]? = some b → hs[i]? = some x → Row w x.1 (pgs b.pages) ∧ b.pages.length ≤ x.2
def Fl (w : World) (A : Option Addr) (f : List Bk) : Prop := ∃ hs, Bks w A f hs
theorem Bks.keep {w w' : World} {A : Option Addr} {f : List Bk} {hs : List (Option Addr × Nat)} (h : Bks w A f hs)
    (hk : ∀ b, (blk A b ∨ ∃ x ∈ hs, blk x.1 b) → b < w.heap.size → w'.heap[b]? = w.heap[b]?) : Bks w' A f hs :=
  ⟨h.len, h.row.keep fun b hb => hk b (.inl hb), fun i b x hb hx => ⟨(h.pg i b x hb hx).1.keep fun c hc => hk c (.inr ⟨x, List.mem_of_getElem? hx, hc⟩), (h.pg i b x hb hx).2⟩⟩
theorem Bks.below {w w' : World} {A : Option Addr} {f : List Bk} {hs : List (Option Addr × Nat)} {B : Nat} (h : Bks w A f hs) (hb : Below B w w') (hB : w.heap.size ≤ B) : Bks w' A f hs :=
  h.keep fun b _ hl => hb.block b (by omega)
theorem Bks.alloc {w : World} {A : Option Addr} {f : List Bk} {hs : List (Option Addr × Nat)} (h : Bks w A f hs) (o : Obj) : Bks (w.alloc o) A f hs := h.keep fun b _ hl => Below.heap_alloc w o b hl
theorem Bks.drew {w : World} {A : Option Addr} {f : List Bk} {hs : List (Option Addr × Nat)} (h : Bks w A f hs) : Bks w.drew A f hs := ⟨h.len, h.row, h.pg⟩
theorem Bks.drewN {w : World} {A : Option Addr} {f : List Bk} {hs : List (Option Addr × Nat)} (h : Bks w A f hs) (n : Nat) : Bks (w.drewN n) A f hs := ⟨h.len, h.row, h.pg⟩
theorem Fl.below {w w' : World} {A : Option Addr} {f : List Bk} {B : Nat} (h : Fl w A f) (hb : Below B w w') (hB : w.heap.size ≤ B) : Fl w' A f := by
  obtain ⟨hs, h⟩ := h; exact ⟨hs, h.below hb hB⟩
theorem Fl.alloc {w : World} {A : Option Addr} {f : List Bk} (h : Fl w A f) (o : Obj) : Fl (w.alloc o) A f := by
  obtain ⟨hs, h⟩ := h; exact ⟨hs, h.alloc o⟩
theorem Bks.addr {w : World} {A : Option Addr} {f : List Bk} {hs : List (Option Addr × Nat)} (h : Bks w A f hs) (hn : f ≠ []) : ∃ b o, A = some ⟨b, o, none⟩ :=
  h.row.addr (by
    intro e
    have hl := hdrs_len f hs h.len
    rw [e] at hl
    exact hn (List.eq_nil_of_length_eq_zero (by simp at hl; omega)))
/-- block i: its header's cells, its pages -/
theorem Bks.at_ {w : World} {g o i : Nat} {f : List Bk} {hs : List (Option Addr × Nat)} {b : Bk} (h : Bks w (some ⟨g, o, none⟩) f hs) (hi : f[i]? = some b) :
    ∃ x, hs[i]? = some x ∧ w.cell? ⟨g, o + i * 2, none⟩ = some (.slice x.1 b.pages.length x.2) ∧ w.cell? ⟨g, o + i * 2 + 1, none⟩ = some (.int .i64 b.worn) ∧
      w.frozen? ⟨g, o + i * 2, none⟩ = false ∧ w.frozen? ⟨g, o + i * 2 + 1, none⟩ = false ∧ Row w x.1 (pgs b.pages) ∧ b.pages.length ≤ x.2 := by
  have hlt := (List.getElem?_eq_some_iff.1 hi).1
  obtain ⟨x, hx⟩ := get_some (l := hs) (k := i) (by rw [h.len]; exact hlt)
  obtain ⟨g1, g2⟩ := hdrs_get f hs i b x hi hx
  obtain ⟨b', o', he, hc⟩ := h.row (by intro e; rw [e] at g1; simp at g1)
  cases he
  obtain ⟨h1, h2⟩ := h.pg i b x hi hx
  exact ⟨x, hx, (hc _ _ g1).1, (hc _ _ g2).1, (hc _ _ g1).2, (hc _ _ g2).2, h1, h2⟩

/-- the blocks of a flash lie from lo on and below hi, and no two are one -/
structure Apt (lo hi : Nat) (A : Option Addr) (hs : List (Option Addr × Nat)) : Prop where
  top : ∀ b : Nat, blk A b → lo ≤ b ∧ b < hi
  in_ : ∀ (i : Nat) (x : Option Addr × Nat) (b : Nat), hs[i]? = some x → blk x.1 b → lo ≤ b ∧ b < hi ∧ ¬ blk A b
  two : ∀ (i j : Nat) (x y : Option Addr × Nat) (b : Nat), hs[i]? = some x → hs[j]? = some y → blk x.1 b → blk y.1 b → i = j
theorem Apt.mono {lo hi lo' hi' : Nat} {A : Option Addr} {hs : List (Option Addr × Nat)} (h : Apt lo hi A hs) (h1 : lo' ≤ lo) (h2 : hi ≤ hi') : Apt lo' hi' A hs :=
  ⟨fun b hb => by have := h.top b hb; omega, fun i x b hx hb => by have := h.in_ i x b hx hb; exact ⟨by omega, by omega, this.2.2⟩, h.two⟩
/-- a flash of one's own -/
def OFl (w : World) (lo hi : Nat) (A : Option Addr) (f : List Bk) : Prop := ∃ hs, Bks w A f hs ∧ Apt lo hi A hs
theorem OFl.fl {w : World} {lo hi : Nat} {A : Option Addr} {f : List Bk} (h : OFl w lo hi A f) : Fl w A f := by obtain ⟨hs, h, _⟩ := h; exact ⟨hs, h⟩
theorem OFl.mono {w : World} {lo hi lo' hi' : Nat} {A : Option Addr} {f : List Bk} (h : OFl w lo hi A f) (h1 : lo' ≤ lo) (h2 : hi ≤ hi') : OFl w lo' hi' A f := by
  obtain ⟨hs, h, k⟩ := h; exact ⟨hs, h, k.mono h1 h2⟩
theorem OFl.keep {w w' : World} {lo hi : Nat} {A : Option Addr} {f : List Bk} (h : OFl w lo hi A f) (hk : ∀ b, lo ≤ b → b < hi → b < w.heap.size → w'.heap[b]? = w.heap[b]?) : OFl w' lo hi A f := by
  obtain ⟨hs, h, k⟩ := h
  refine ⟨hs, h.keep fun b hb hl => ?_, k⟩
  rcases hb with hb | ⟨x, hx, hb⟩
  · have := k.top b hb; exact hk b this.1 this.2 hl
  · obtain ⟨i, hi'⟩ := List.getElem?_of_mem hx
    have := k.in_ i x b hi' hb; exact hk b this.1 this.2.1 hl
theorem OFl.agr {w w' : World} {lo hi : Nat} {A : Option Addr} {f : List Bk} {S : Nat → Prop} (h : OFl w lo hi A f) (hb : Agr S w w') (hS : ∀ b, lo ≤ b → b < hi → ¬ S b) : OFl w' lo hi A f :=
  h.keep fun b h1 h2 hl => hb.block b hl (hS b h1 h2)
theorem OFl.below {w w' : World} {lo hi B : Nat} {A : Option Addr} {f : List Bk} (h : OFl w lo hi A f) (hb : Below B w w') (hB : w.heap.size ≤ B) : OFl w' lo hi A f :=
  h.keep fun b _ _ hl => hb.block b (by omega)
theorem OFl.alloc {w : World} {lo hi : Nat} {A : Option Addr} {f : List Bk} (h : OFl w lo hi A f) (o : Obj) : OFl (w.alloc o) lo hi A f := h.keep fun b _ _ hl => Below.heap_alloc w o b hl

theorem hdrs_set : ∀ (f : List Bk) (hs : List (Option Addr × Nat)) (i : Nat) (b c : Bk) (x : Option Addr × Nat), f[i]? = some b → hs[i]? = some x →
    hdrs (f.set i c) hs = setL (hdrs f hs) (i * 2) [.slice x.1 c.pages.length x.2, .int .i64 c.worn]
  | [], _, _, _, _, _, h, _ => by simp at h
  | _ :: _, [], _, _, _, _, _, h => by simp at h
  | b :: f, x :: hs, 0, b', c, x', h, h' => by simp at h'; subst h'; simp [hdrs, setL]
  | b :: f, x :: hs, i + 1, b', c, x', h, h' => by
    have ih := hdrs_set f hs i b' c x' (by simpa using h) (by simpa using h')
    rw [List.set_cons_succ, hdrs, hdrs, ih]
    exact (by rw [show (i + 1) * 2 = 2 + i * 2 by omega]; exact (setL_right [_, _] _ _ _).symm)
theorem pgs_set : ∀ (ps : List Pg) (k : Nat) (p : Pg), k < ps.length → pgs (ps.set k p) = setL (pgs ps) (k * 5) p.vs
  | [], _, _, h => by simp at h
  | q :: ps, 0, p, _ => by simp [pgs, Pg.vs, setL]
  | q :: ps, k + 1, p, h => by
    have ih := pgs_set ps k p (by simpa using h)
    rw [List.set_cons_succ]
    show q.vs ++ pgs (ps.set k p) = setL (q.vs ++ pgs ps) _ _
    rw [ih, show (k + 1) * 5 = q.vs.length + k * 5 by simp [Pg.vs]; omega, setL_right]
theorem ints_set (xs : List Int) (k : Nat) (x : Int) : ints (xs.set k x) = setL (ints xs) k [.int .i64 x] := by simp [ints, setL, List.map_set]

/-- block i's header was written; its pages lie at x still -/
theorem Bks.setHdr {w w' : World} {g o i : Nat} {f : List Bk} {hs : List (Option Addr × Nat)} {b : Bk} {x : Option Addr × Nat} {n : Int} {lo hi : Nat} (h : Bks w (some ⟨g, o, none⟩) f hs) (k : Apt lo hi (some ⟨g, o, none⟩) hs)
    (hb : f[i]? = some b) (hx : hs[i]? = some x) (hw : Wrote w w' g (o + i * 2) [.slice x.1 b.pages.length x.2, .int .i64 n]) : Bks w' (some ⟨g, o, none⟩) (f.set i { b with worn := n }) hs := by
  have hlt := (List.getElem?_eq_some_iff.1 hb).1
  refine ⟨by simp [h.len], ?_, fun j c y hc hy => ?_⟩
  · rw [hdrs_set f hs i b { b with worn := n } x hb hx]
    exact hw.row h.row (by rw [hdrs_len f hs h.len]; simp; omega)
  · have hfar : ¬ blk y.1 g := fun e => (k.in_ j y g hy e).2.2 rfl
    by_cases hj : j = i
    · subst hj
      rw [List.getElem?_set_self hlt] at hc
      cases hc
      obtain ⟨h1, h2⟩ := h.pg j b y hb hy
      exact ⟨hw.far h1 hfar, h2⟩
    · rw [List.getElem?_set_ne (by omega)] at hc
      obtain ⟨h1, h2⟩ := h.pg j c y hc hy
      exact ⟨hw.far h1 hfar, h2⟩
/-- page j of block i was written -/
theorem Bks.setPage {w w' : World} {A : Option Addr} {i j pb po : Nat} {f : List Bk} {hs : List (Option Addr × Nat)} {b : Bk} {c : Nat} {p : Pg} {lo hi : Nat} (h : Bks w A f hs) (k : Apt lo hi A hs)
    (hb : f[i]? = some b) (hx : hs[i]? = some (some ⟨pb, po, none⟩, c)) (hj : j < b.pages.length) (hw : Wrote w w' pb (po + j * 5) p.vs) : Bks w' A (f.set i { b with pages := b.pages.set j p }) hs := by
  have hlt := (List.getElem?_eq_some_iff.1 hb).1
  have htop : ¬ blk A pb := (k.in_ i _ pb hx rfl).2.2
  refine ⟨by simp [h.len], ?_, fun m d y hd hy => ?_⟩
  · have e : hdrs (f.set i { b with pages := b.pages.set j p }) hs = hdrs f hs := by
      rw [hdrs_set f hs i b _ _ hb hx]
      obtain ⟨g1, g2⟩ := hdrs_get f hs i b _ hb hx
      refine List.ext_getElem? fun m => ?_
      rw [setL_get _ _ _ _ (by rw [hdrs_len f hs h.len]; simp; omega)]
      split
      · rename_i hm
        simp at hm
        rcases (by omega : m = i * 2 ∨ m = i * 2 + 1) with rfl | rfl
        · rw [g1]; simp
        · rw [g2]; simp
      · rfl
    rw [e]; exact hw.far h.row htop
  · by_cases hm : m = i
    · subst hm
      rw [List.getElem?_set_self hlt] at hd
      cases hd
      rw [hx] at hy; cases hy
      obtain ⟨h1, h2⟩ := h.pg m b _ hb hx
      refine ⟨?_, by simpa using h2⟩
      show Row w' _ (pgs (b.pages.set j p))
      rw [pgs_set b.pages j p hj]
      exact hw.row h1 (by rw [pgs_len]; simp [Pg.vs]; omega)
    · rw [List.getElem?_set_ne (by omega)] at hd
      obtain ⟨h1, h2⟩ := h.pg m d y hd hy
      refine ⟨hw.far h1 fun e => hm (k.two m i y _ pb hy hx e rfl), h2⟩
/-- block i was replaced: its pages lie elsewhere now -/
theorem Bks.setBlock {w w' : World} {g o i : Nat} {f : List Bk} {hs : List (Option Addr × Nat)} {c : Bk} {x : Option Addr × Nat} (h : Bks w (some ⟨g, o, none⟩) f hs) (hi : i < f.length)
    (hg : ∀ (j : Nat) (y : Option Addr × Nat), hs[j]? = some y → ¬ blk y.1 g) (hx : ¬ blk x.1 g) (hr : Row w x.1 (pgs c.pages)) (hc : c.pages.length ≤ x.2)
    (hw : Wrote w w' g (o + i * 2) [.slice x.1 c.pages.length x.2, .int .i64 c.worn]) : Bks w' (some ⟨g, o, none⟩) (f.set i c) (hs.set i x) := by
  refine ⟨by simp [h.len], ?_, fun j d y hd hy => ?_⟩
  · have e : hdrs (f.set i c) (hs.set i x) = setL (hdrs f hs) (i * 2) [.slice x.1 c.pages.length x.2, .int .i64 c.worn] := by
      have hl := h.len
      clear h hw hg hr
      induction f generalizing i hs with
      | nil => simp at hi
      | cons a f ih =>
        cases hs with
        | nil => simp at hl
        | cons z hs =>
          cases i with
          | zero => simp [hdrs, setL]
          | succ i =>
            rw [List.set_cons_succ, List.set_cons_succ, hdrs, hdrs, ih (hs := hs) (i := i) (by simpa using hi) (by simpa using hl)]
            exact (by rw [show (i + 1) * 2 = 2 + i * 2 by omega]; exact (setL_right [_, _] _ _ _).symm)
    rw [e]
    exact hw.row h.row (by rw [hdrs_len f hs h.len]; simp; omega)
  · by_cases hj : j = i
    · subst hj
      rw [List.getElem?_set_self hi] at hd
      rw [List.getElem?_set_self (by rw [h.len]; exact hi)] at hy
      cases hd; cases hy
      exact ⟨hw.far hr hx, hc⟩
    · rw [List.getElem?_set_ne (by omega)] at hd
      rw [List.getElem?_set_ne (by omega)] at hy
      obtain ⟨h1, h2⟩ := h.pg j d y hd hy
      exact ⟨hw.far h1 (hg j y hy), h2⟩
/-- the pages of block i were written, as many as before -/
theorem Bks.newPages {w w' : World} {A : Option Addr} {i : Nat} {f : List Bk} {hs : List (Option Addr × Nat)} {b : Bk} {x : Option Addr × Nat} {ps : List Pg} {lo hi : Nat} (h : Bks w A f hs) (k : Apt lo hi A hs)
    (hb : f[i]? = some b) (hx : hs[i]? = some x) (hl : ps.length = b.pages.length) (hr : Row w' x.1 (pgs ps)) (ha : Agr (blk x.1) w w') : Bks w' A (f.set i { b with pages := ps }) hs := by
  have hlt := (List.getElem?_eq_some_iff.1 hb).1
  refine ⟨by simp [h.len], ?_, fun m d y hd hy => ?_⟩
  · have e : hdrs (f.set i { b with pages := ps }) hs = hdrs f hs := by
      rw [hdrs_set f hs i b _ _ hb hx]
      obtain ⟨g1, g2⟩ := hdrs_get f hs i b _ hb hx
      refine List.ext_getElem? fun m => ?_
      rw [setL_get _ _ _ _ (by rw [hdrs_len f hs h.len]; simp; omega)]
      split
      · rename_i hm
        simp at hm
        rcases (by omega : m = i * 2 ∨ m = i * 2 + 1) with rfl | rfl
        · rw [g1]; simp [hl]
        · rw [g2]; simp
      · rfl
    rw [e]
    exact h.row.agr ha fun c hA hc => (k.in_ i x c hx hc).2.2 hA
  · by_cases hm : m = i
    · subst hm
      rw [List.getElem?_set_self hlt] at hd
      cases hd
      rw [hx] at hy; cases hy
      exact ⟨hr, by have := (h.pg m b _ hb hx).2; simp only; omega⟩
    · rw [List.getElem?_set_ne (by omega)] at hd
      obtain ⟨h1, h2⟩ := h.pg m d y hd hy
      exact ⟨h1.agr ha fun c hc hc' => hm (k.two m i y x c hy hx hc hc'), h2⟩
theorem Apt.set {lo hi hi' : Nat} {A : Option Addr} {hs : List (Option Addr × Nat)} (h : Apt lo hi A hs) (i : Nat) (x : Option Addr × Nat) (hx : ∀ b, blk x.1 b → hi ≤ b ∧ b < hi') (hlh : lo ≤ hi) (hh : hi ≤ hi') : Apt lo hi' A (hs.set i x) := by
  have key : ∀ (j : Nat) (y : Option Addr × Nat), (hs.set i x)[j]? = some y → (j = i ∧ y = x) ∨ (j ≠ i ∧ hs[j]? = some y) := fun j y hy => by
    by_cases hj : j = i
    · subst hj
      have hl := (List.getElem?_eq_some_iff.1 hy).1
      rw [List.getElem?_set_self (by simpa using hl)] at hy
      cases hy; exact .inl ⟨rfl, rfl⟩
    · rw [List.getElem?_set_ne (by omega)] at hy; exact .inr ⟨hj, hy⟩
  refine ⟨fun b hb => by have := h.top b hb; omega, fun j y b hy hb => ?_, fun j m y z b hy hz hb hc => ?_⟩
  · rcases key j y hy with ⟨rfl, rfl⟩ | ⟨hj, hy⟩
    · have := hx b hb; exact ⟨by omega, by omega, fun e => by have := h.top b e; omega⟩
    · have := h.in_ j y b hy hb; exact ⟨by omega, by omega, this.2.2⟩
  · rcases key j y hy with ⟨ej, ey⟩ | ⟨_, hy'⟩ <;> rcases key m z hz with ⟨em, ez⟩ | ⟨_, hz'⟩
    · omega
    · have h1 := hx b (ey ▸ hb); have h2 := h.in_ m z b hz' hc; omega
    · have h1 := hx b (ez ▸ hc); have h2 := h.in_ j y b hy' hb; omega
    · exact h.two j m y z b hy' hz' hb hc
/-- a header stored: two cells -/
theorem wrote_hdr {w : World} {g o i : Nat} {f : List Bk} {hs : List (Option Addr × Nat)} {b : Bk} (h : Bks w (some ⟨g, o, none⟩) f hs) (hi : f[i]? = some b) (v u : Value) :
    Wrote w ((w.setCell ⟨g, o + i * 2, none⟩ v).setCell ⟨g, o + i * 2 + 1, none⟩ u) g (o + i * 2) [v, u] := by
  obtain ⟨x, _, c0, c1, _⟩ := h.at_ hi
  refine wrote_setRow g [v, u] (o + i * 2) w fun j hj => ?_
  match j, hj with
  | 0, _ => exact ⟨_, c0⟩
  | 1, _ => exact ⟨_, c1⟩
def zbk : Bk := ⟨[], 0⟩
theorem Bks.new (w : World) (n : Nat) (t : TypeId) (cs : Array Value) (hc : cs.toList = hdrs (List.replicate n zbk) (List.replicate n (none, 0))) : Bks (w.alloc (.cells cs t)) (some ⟨w.heap.size, 0, none⟩) (List.replicate n zbk) (List.replicate n (none, 0)) :=
  ⟨by simp, hc ▸ Row.new w cs t, fun i b x hb hx => by
    have h1 := List.mem_of_getElem? hb; have h2 := List.mem_of_getElem? hx
    rw [List.mem_replicate] at h1 h2
    obtain ⟨_, rfl⟩ := h1; obtain ⟨_, rfl⟩ := h2
    exact ⟨Row.nil _ _, Nat.le_refl _⟩⟩
theorem Apt.new (g : Nat) (n : Nat) : Apt g (g + 1) (some ⟨g, 0, none⟩) (List.replicate n ((none : Option Addr), 0)) :=
  have key : ∀ (i : Nat) (x : Option Addr × Nat) (b : Nat), (List.replicate n ((none : Option Addr), 0))[i]? = some x → ¬ blk x.1 b := fun i x b hx hb => by
    have h2 := List.mem_of_getElem? hx
    rw [List.mem_replicate] at h2
    obtain ⟨_, rfl⟩ := h2
    cases hb
  ⟨fun b hb => by cases hb; exact ⟨Nat.le_refl _, Nat.lt_succ_self _⟩, fun i x b hx hb => absurd hb (key i x b hx), fun i j x y b hx hy hb _ => absurd hb (key i x b hx)⟩
theorem copy_step {α : Type} (z : α) (f : List α) (n k : Nat) (x : α) (h : f[k]? = some x) (hn : f.length = n) : (f.take k ++ (List.replicate n z).drop k).set k x = f.take (k + 1) ++ (List.replicate n z).drop (k + 1) := by
  obtain ⟨hl, rfl⟩ := List.getElem?_eq_some_iff.1 h
  rw [List.set_append_right _ _ (by simp; omega), show k - (f.take k).length = 0 by simp; omega, List.drop_eq_getElem_cons (by simp; omega), List.set_cons_zero, List.take_succ_eq_append_getElem hl, List.append_assoc]
  rfl
/-- the blocks that a flash lies in -/
def fblk (A : Option Addr) (hs : List (Option Addr × Nat)) (b : Nat) : Prop := blk A b ∨ ∃ (i : Nat) (x : Option Addr × Nat), hs[i]? = some x ∧ blk x.1 b
theorem Apt.fblk {lo hi b : Nat} {A : Option Addr} {hs : List (Option Addr × Nat)} (h : Apt lo hi A hs) (hb : fblk A hs b) : lo ≤ b ∧ b < hi := by
  rcases hb with hb | ⟨i, x, hx, hb⟩
  · exact h.top b hb
  · have := h.in_ i x b hx hb; exact ⟨this.1, this.2.1⟩
end Go.Proofs.YtohkoogmbfaceaaGreat
namespace Go.Proofs.YtohkoogmbfaceaaGreat
set_option linter.unusedVariables false
set_option linter.unusedSimpArgs false
open Go.RowKit Go.Maps
/-- block b is a map from int to int (types t, K, E) of at most n entries, that answers F -/
def IMap (P : Program) (K E : TypeId) (w : World) (b n : Nat) (F : Int → Int) : Prop :=
  ∃ D : DataW Unit, w.ownsMap P K (plainElem P E) b n D ∧ IsMap D ∧ ∀ k, (Lit.int .i64 k).wf = true → D.atKey (.int .i64 k) (.lit (.int .i64 0)) = .lit (.int .i64 (F k))
section
variable {P : Program} {t K E : TypeId} {w w' : World} {b n : Nat} {F : Int → Int}
theorem IMap.made (P : Program) (K E : TypeId) (w : World) : IMap P K E (w.alloc (.map #[] 0)) w.heap.size 0 (fun _ => 0) := ⟨_, World.ownsMap_made _ _ _ _, isMap_empty, fun k _ => rfl⟩
theorem IMap.mono (h : IMap P K E w b n F) {m : Nat} (hm : n ≤ m) : IMap P K E w b m F := by
  obtain ⟨D, h1, h2⟩ := h; exact ⟨D, h1.mono hm, h2⟩
theorem IMap.lt (h : IMap P K E w b n F) : b < w.heap.size := by obtain ⟨D, h1, _⟩ := h; exact h1.lt
theorem IMap.below {B : Nat} (h : IMap P K E w b n F) (hb : Below B w w') (hB : b < B) : IMap P K E w' b n F := by
  have hl := h.lt
  obtain ⟨D, ⟨es, clock, e, r⟩, h2⟩ := h
  exact ⟨D, ⟨es, clock, (hb.block b hB).trans e, r⟩, h2⟩
theorem IMap.alloc (h : IMap P K E w b n F) (o : Obj) : IMap P K E (w.alloc o) b n F := by
  obtain ⟨D, h1, h2⟩ := h; exact ⟨D, h1.alloc o, h2⟩
theorem IMap.setCell (h : IMap P K E w b n F) {a : Addr} (ha : b ≠ a.block) (u : Value) : IMap P K E (w.setCell a u) b n F := by
  obtain ⟨D, h1, h2⟩ := h; exact ⟨D, h1.setCell ha u, h2⟩
theorem IMap.look (h : IMap P K E w b n F) (ht : P.underlying t = some (.map K E)) (hK : P.underlying K = some (.int .i64)) (hE : P.underlying E = some (.int .i64)) (hz : ∀ w : World, (zeroValue E).run P w = .ok (.int .i64 0) w) {k : Int} (hk : (Lit.int .i64 k).wf = true) :
    (Instr.lookup t (.map (some b)) (.int .i64 k) false).run P w = .ok (.int .i64 (F k)) w := by
  obtain ⟨D, h1, _, h3⟩ := h
  obtain ⟨c, hrun, hat, _⟩ := h1.lookup_int (int_keyed hK) ht hE (hz w) (keyOf_int_mk hK hk)
  rw [h3 k hk] at hat
  rw [hrun]
  injection hat with e1; injection e1 with _ e2
  rw [e2]
theorem isKeyLit_int (k : Int) (hk : (Lit.int .i64 k).wf = true) : WideAt.IsKeyLit (.int .i64 k) := by
  simp [WideAt.IsKeyLit]
theorem IMap.put (h : IMap P K E w b n F) (ht : P.underlying t = some (.map K E)) (hK : P.underlying K = some (.int .i64)) (hE : P.underlying E = some (.int .i64)) (hn : n < maxLen) {k v : Int} (hk : (Lit.int .i64 k).wf = true) (hv : (Lit.int .i64 v).wf = true) :
    ∃ w', (Instr.mapUpdate t (.map (some b)) (.int .i64 k) (.int .i64 v)).run P w = .ok () w' ∧ IMap P K E w' b (n + 1) (fun x => if x = k then v else F x) ∧ w.grownBy w' (some b) := by
  obtain ⟨D, h1, h2, h3⟩ := h
  obtain ⟨w', hrun, g1, g2⟩ := h1.update (int_keyed hK) ht hn (keyOf_int_mk hK hk) (plainElem_int hE hv)
  refine ⟨w', hrun, ⟨_, g1, h2.put _ _, fun x hx => ?_⟩, g2⟩
  dsimp only
  by_cases e : x = k
  · subst e
    rw [if_pos rfl, atKey_put_same h2 (isKeyLit_int _ hk)]
  · rw [if_neg e, atKey_put_other (by intro e'; injection e' with _ e''; exact e e''), h3 x hx]
end
end Go.Proofs.YtohkoogmbfaceaaGreat
namespace Go.Proofs.YtohkoogmbfaceaaGreat
set_option linter.unusedVariables false
set_option linter.unusedSimpArgs false
open Go.RowKit
set_option maxHeartbeats 400000
theorem impl_addrOk (a : Int) (w : World) : Calls Tryz.prog 87 #[.int .i64 a] w fun e w' => e = .returned (.bool (addrB a)) ∧ w = w' := by
  go_enter Tryz.func87, Tryz.ntmps87
  go_wp2
  all_goals (go_ret; exact ⟨ret_bool (by unfold addrB; simp [*] <;> omega), rfl⟩)
theorem impl_valOk (a : Int) (w : World) : Calls Tryz.prog 44 #[.int .i64 a] w fun e w' => e = .returned (.bool (valB a)) ∧ w = w' := by
  go_enter Tryz.func44, Tryz.ntmps44
  go_wp2
  all_goals (go_ret; exact ⟨ret_bool (by unfold valB; simp [*] <;> omega), rfl⟩)
theorem impl_blockOk (a : Int) (w : World) : Calls Tryz.prog 88 #[.int .i64 a] w fun e w' => e = .returned (.bool (blockB a)) ∧ w = w' := by
  go_enter Tryz.func88, Tryz.ntmps88
  go_wp2
  all_goals (go_ret; exact ⟨ret_bool (by unfold blockB; simp [*] <;> omega), rfl⟩)
theorem spec_l6In (n lo hi : Int) (w : World) : Calls Tryz.prog 37 #[.int .i64 n, .int .i64 lo, .int .i64 hi] w fun e w' => e = .returned (.bool (decide (lo ≤ n) && decide (n ≤ hi))) ∧ w = w' := by
  go_enter Tryz.func37, Tryz.ntmps37
  go_wp2
  all_goals (go_ret; exact ⟨ret_bool (by simp [*] <;> omega), rfl⟩)

/-- what entryOf answers: nil just where the kind is unknown -/
def EntryPost (k s a v : Int) (w : World) (e : Ending) (w' : World) : Prop :=
  ((kindB k = false ∧ e = .returned .nilIface) ∨ (kindB k = true ∧ ∃ t, (t = 141 ∨ t = 142) ∧ e = .returned (.iface t (.agg #[.int .i64 k, .int .i64 s, .int .i64 a, .int .i64 v])))) ∧ Below w.heap.size w w'
theorem impl_entryOf (k s a v : Int) (w : World) : Calls Tryz.prog 101 #[.agg #[.int .i64 k, .int .i64 s, .int .i64 a, .int .i64 v]] w (EntryPost k s a v w) := by
  have hB : Below w.heap.size w (w.alloc (.cells #[.int .i64 k, .int .i64 s, .int .i64 a, .int .i64 v] 64)) := (Below.refl _ _).alloc (Nat.le_refl _) _
  by_cases h1 : k = 1
  · subst h1
    go_enter Tryz.func101, Tryz.ntmps101
    go_wp2
    go_ret
    exact ⟨.inr ⟨rfl, _, .inl rfl, rfl⟩, hB⟩
  by_cases h2 : k = 2
  · subst h2
    go_enter Tryz.func101, Tryz.ntmps101
    go_wp2
    go_ret
    exact ⟨.inr ⟨rfl, _, .inr rfl, rfl⟩, hB⟩
  have hk : Hid (kindB k = false) := by unfold Hid kindB; simp [h1, h2]
  go_enter Tryz.func101, Tryz.ntmps101
  go_wp2
  go_ret
  exact ⟨.inl ⟨hk.out, rfl⟩, hB⟩

theorem impl_RecOk (r : Rc) (w : World) : Calls Tryz.prog 89 #[.agg #[.int .i64 r.kind, .int .i64 r.seq, .int .i64 r.addr, .int .i64 r.val]] w fun e w' => e = .returned (.bool (recOk r)) ∧ Below w.heap.size w w' := by
  obtain ⟨k, s, a, v⟩ := r
  dsimp only
  go_enter Tryz.func89, Tryz.ntmps89
  go_wp2_with fail
  refine (impl_entryOf k s a v _).mono ?_
  rintro e w1 ⟨⟨hk, rfl⟩ | ⟨hk, t, ht, rfl⟩, hb⟩
  · go_wp2
    go_ret
    exact ⟨ret_bool (by simp [recOk, hk]), ((Below.refl _ _).alloc (Nat.le_refl _) _).trans (hb.mono (by simp))⟩
  · have hB : Below w.heap.size w w1 := ((Below.refl _ _).alloc (Nat.le_refl _) _).trans (hb.mono (by simp))
    have c1 : w1.cell? ⟨w.heap.size, 1, none⟩ = some (.int .i64 s) := (hb.cell (by simp)).trans (by simp)
    have c2 : w1.cell? ⟨w.heap.size, 2, none⟩ = some (.int .i64 a) := (hb.cell (by simp)).trans (by simp)
    have c3 : w1.cell? ⟨w.heap.size, 3, none⟩ = some (.int .i64 v) := (hb.cell (by simp)).trans (by simp)
    clear hb
    have hq : recOk ⟨k, s, a, v⟩ = (decide (1 ≤ s) && (decide (s ≤ 600) && (addrB a && valB v))) := by simp [recOk, hk]
    have Hq := Lib.hid hq
    clear hk ht hq
    go_wp2_with (first | (go_at_call 87; refine (impl_addrOk _ _).mono ?_; rintro e w' ⟨rfl, rfl⟩) | (go_at_call 44; refine (impl_valOk _ _).mono ?_; rintro e w' ⟨rfl, rfl⟩))
    all_goals (go_ret; refine ⟨ret_bool ?_, hB⟩; rw [Hq.out]; simp [*] <;> omega)
end Go.Proofs.YtohkoogmbfaceaaGreat
namespace Go.Proofs.YtohkoogmbfaceaaGreat
set_option linter.unusedVariables false
set_option linter.unusedSimpArgs false
open Go.RowKit Go.Maps
set_option maxHeartbeats 400000
theorem impl_pageShape (p : Pg) (w : World) : Calls Tryz.prog 79 #[.agg #[.int .i64 p.state, .int .i64 p.rc.kind, .int .i64 p.rc.seq, .int .i64 p.rc.addr, .int .i64 p.rc.val]] w fun e w' => e = .returned (.bool (pageOk p)) ∧ Below w.heap.size w w' := by
  obtain ⟨st, r⟩ := p
  dsimp only
  have hB : Below w.heap.size w (w.alloc (.cells #[.int .i64 st, .int .i64 r.kind, .int .i64 r.seq, .int .i64 r.addr, .int .i64 r.val] 71)) := (Below.refl _ _).alloc (Nat.le_refl _) _
  by_cases h1 : st = 1
  · subst h1
    have hq : Hid (pageOk ⟨1, r⟩ = recOk r) := rfl
    go_enter Tryz.func79, Tryz.ntmps79
    go_wp2_with (go_at_call 89; refine (impl_RecOk r _).mono ?_; rintro e w1 ⟨rfl, hb⟩)
    go_ret
    exact ⟨ret_bool hq.out.symm, hB.trans (hb.mono (by simp))⟩
  clear hB
  obtain ⟨k, s, a, v⟩ := r
  dsimp only
  by_cases h0 : st = 0
  · subst h0
    have hq : Hid (pageOk ⟨0, ⟨k, s, a, v⟩⟩ = decide ((⟨k, s, a, v⟩ : Rc) = rc0)) := rfl
    go_enter Tryz.func79, Tryz.ntmps79
    go_wp2
    all_goals (go_ret; exact ⟨ret_bool (by rw [hq.out]; simp [rc0, *]), (Below.refl _ _).alloc (Nat.le_refl _) _⟩)
  by_cases h2 : st = 2
  · subst h2
    have hq : Hid (pageOk ⟨2, ⟨k, s, a, v⟩⟩ = decide ((⟨k, s, a, v⟩ : Rc) = rc0)) := rfl
    go_enter Tryz.func79, Tryz.ntmps79
    go_wp2
    all_goals (go_ret; exact ⟨ret_bool (by rw [hq.out]; simp [rc0, *]), (Below.refl _ _).alloc (Nat.le_refl _) _⟩)
  have hk : Hid (pageOk ⟨st, ⟨k, s, a, v⟩⟩ = false) := by unfold Hid pageOk; simp [h1, h2, h0]
  go_enter Tryz.func79, Tryz.ntmps79
  go_wp2
  go_ret
  exact ⟨ret_bool hk.out.symm, (Below.refl _ _).alloc (Nat.le_refl _) _⟩

theorem impl_blockShape (b : Bk) (A : Option Addr) (c : Nat) (w : World) (hR : Row w A (pgs b.pages)) : Calls Tryz.prog 78 #[.agg #[.slice A b.pages.length c, .int .i64 b.worn]] w fun e w' => e = .returned (.bool (blockShape b)) ∧ Below w.heap.size w w' := by
  obtain ⟨ps, worn⟩ := b
  dsimp only at *
  have hB : Below w.heap.size w (w.alloc (.cells #[.slice A ps.length c, .int .i64 worn] 59)) := (Below.refl _ _).alloc (Nat.le_refl _) _
  by_cases hn4 : ps.length = 4
  · obtain ⟨bk, off, rfl⟩ := hR.addr (pgs_ne (by rintro rfl; simp at hn4))
    have HN := Lib.hid hn4
    rw [hn4] at hB ⊢
    clear hn4
    by_cases h0 : worn < 0
    · have hfin : Hid (blockShape ⟨ps, worn⟩ = false) := by unfold Hid blockShape; simp; omega
      go_enter Tryz.func78, Tryz.ntmps78
      go_wp2
      go_ret
      exact ⟨ret_bool hfin.out.symm, hB⟩
    by_cases h1 : 200 < worn
    · have hfin : Hid (blockShape ⟨ps, worn⟩ = false) := by unfold Hid blockShape; simp; omega
      go_enter Tryz.func78, Tryz.ntmps78
      go_wp2
      go_ret
      exact ⟨ret_bool hfin.out.symm, hB⟩
    have hfin : Hid (blockShape ⟨ps, worn⟩ = shapeGo false ps) := by unfold Hid blockShape; simp [HN.out, show 0 ≤ worn by omega, show worn ≤ 200 by omega]
    go_enter Tryz.func78, Tryz.ntmps78
    go_wp2
    go_loopw [3, 23] (fun fr i wr => ∃ (k : Nat) (bb : Bool), k ≤ 4 ∧ i = .int .i64 k ∧ fr = .bool bb ∧ Below w.heap.size w wr ∧ Hid (shapeGo false ps = shapeGo bb (ps.drop k))) (fun _ i _ => 4 - (intOf i).toNat)
    case atStart => exact ⟨0, false, by omega, rfl, rfl, hB, rfl⟩
    case round =>
      obtain ⟨k, bb, hk, rfl, rfl, hb, hg⟩ := hrel
      by_cases hlt : k < 4
      · obtain ⟨p, hp⟩ := get_some (l := ps) (k := k) (by have := HN.out; omega)
        have hd := Lib.hid (drop_cons hp)
        obtain ⟨c0, c1, c2, c3, c4⟩ := (hR.below hb (Nat.le_refl _)).pg hp
        clear hp hB
        obtain ⟨st, rc⟩ := p
        dsimp only at *
        go_wp2
        · go_ret
          exact ⟨ret_bool (by rw [hfin.out, hg.out, hd.out]; simp [shapeGo, *]), hb.alloc hb.size _⟩
        all_goals
          go_roundw
          case rel => exact ⟨k + 1, _, by omega, by go_num, rfl, hb.alloc hb.size _, by rw [Hid, hg.out, hd.out]; simp [shapeGo, *]⟩
          case measure => simp [intOf]; omega
      · go_wp2
        go_ret
        obtain rfl : k = 4 := by omega
        exact ⟨ret_bool (by rw [hfin.out, hg.out, List.drop_of_length_le (by have := HN.out; omega)]; rfl), hb⟩
  · have hfin : Hid (blockShape ⟨ps, worn⟩ = false) := by unfold Hid blockShape; simp; omega
    go_enter Tryz.func78, Tryz.ntmps78
    go_wp2
    go_ret
    exact ⟨ret_bool hfin.out.symm, hB⟩

theorem zero_int (w : World) : (zeroValue 3).run Tryz.prog w = .ok (.int .i64 0) w := by kernel_rfl
/-- how often each number was met -/
def cnt (seen : List Int) (k : Int) : Int := seen.count k
theorem cnt_pos {seen : List Int} {k : Int} : 0 < cnt seen k ↔ k ∈ seen := by unfold cnt; rw [← List.count_pos_iff]; omega
set_option maxHeartbeats 1000000 in
theorem impl_FlashOk (f : List Bk) (A : Option Addr) (c : Nat) (w : World) (hF : Fl w A f) : Calls Tryz.prog 59 #[.slice A f.length c] w fun e w' => e = .returned (.bool (flashOk f)) ∧ Below w.heap.size w w' := by
  by_cases hn4 : f.length = 4
  · obtain ⟨hs, hF⟩ := hF
    obtain ⟨bk, off, rfl⟩ := hF.addr (by rintro rfl; simp at hn4)
    have hfin : Hid (flashOk f = blocksGo [] f) := by unfold Hid flashOk; simp [hn4]
    have HN := Lib.hid hn4
    rw [hn4]
    clear hn4
    have hmm := @run_makeMap Tryz.prog
    go_enter Tryz.func59, Tryz.ntmps59
    go_wp2
    go_loopw [14] (fun i wr => ∃ (k : Nat) (seen : List Int), k ≤ 4 ∧ i = .int .i64 k ∧ Below w.heap.size w wr ∧ IMap Tryz.prog 3 3 wr w.heap.size (4 * k) (cnt seen) ∧ (∀ x, cnt seen x ≤ 4 * k) ∧ Hid (flashOk f = blocksGo seen (f.drop k))) (fun i _ => 4 - (intOf i).toNat)
    case atStart => exact ⟨0, [], by omega, rfl, (Below.refl _ _).alloc (Nat.le_refl _) _, (IMap.made _ _ _ _), by simp [cnt], hfin.out⟩
    case round =>
      obtain ⟨k, seen, hk, rfl, hb, hM, hcn, hg⟩ := hrel
      by_cases hlt : k < 4
      · obtain ⟨B, hB⟩ := get_some (l := f) (k := k) (by have := HN.out; omega)
        have hd := Lib.hid (drop_cons hB)
        obtain ⟨⟨Ap, cp⟩, _, c0, c1, _, _, hR, hlc⟩ := hF.at_ hB
        have hbk : bk < w.heap.size := lt_of_cell c0
        replace c0 := (hb.cell (p := ⟨bk, off + k * 2, none⟩) hbk).trans c0
        replace c1 := (hb.cell (p := ⟨bk, off + k * 2 + 1, none⟩) hbk).trans c1
        clear hB hbk
        obtain ⟨Ps, wn⟩ := B
        dsimp only at *
        go_wp2_with fail
        refine (impl_blockShape ⟨Ps, wn⟩ Ap cp _ ((hR.below hb (Nat.le_refl _)).alloc _)).mono ?_
        rintro e w1 ⟨rfl, hb1⟩
        have hx0 : w1.cell? ⟨wr.heap.size, 0, none⟩ = some (.slice Ap Ps.length cp) := (hb1.cell (by simp)).trans (by simp)
        have hB1 : Below w.heap.size w w1 := (hb.alloc hb.size _).trans (hb1.mono (by have := hb.size; simp; omega))
        have hM1 : IMap Tryz.prog 3 3 w1 w.heap.size (4 * k) (cnt seen) := (hM.alloc _).below hb1 (by have := hM.lt; simp; omega)
        clear hb1 c0 c1 hM hb
        by_cases hbs : blockShape ⟨Ps, wn⟩ = true
        · have hl4 : Ps.length = 4 := by unfold blockShape at hbs; simp at hbs; exact hbs.1
          have hstep : Hid (flashOk f = pagesGo seen (fun s => blocksGo s (f.drop (k + 1))) Ps) := by rw [Hid, hg.out, hd.out, blocksGo, hbs]; rfl
          obtain ⟨pb, po, rfl⟩ := hR.addr (pgs_ne (by rintro rfl; simp at hl4))
          have HL := Lib.hid hl4
          rw [hl4] at hx0
          clear hl4 hlc hg hd
          go_wp2
          go_loopw [24] (fun i wr => ∃ (j : Nat) (seen : List Int), j ≤ 4 ∧ i = .int .i64 j ∧ Below w.heap.size w wr ∧ IMap Tryz.prog 3 3 wr w.heap.size (4 * k + j) (cnt seen) ∧ (∀ x, cnt seen x ≤ 4 * k + j) ∧ Hid (flashOk f = pagesGo seen (fun s => blocksGo s (f.drop (k + 1))) (Ps.drop j))) (fun i _ => 4 - (intOf i).toNat)
          case atStart => exact ⟨0, seen, by omega, rfl, hB1, hM1, by intro x; have := hcn x; omega, hstep.out⟩
          case round =>
            clear hM1 hcn seen hB1 hx0 hstep
            obtain ⟨j, seen, hj, rfl, hb, hM, hcn, hg⟩ := hrel
            by_cases hltj : j < 4
            · obtain ⟨p, hp⟩ := get_some (l := Ps) (k := j) (by have := HL.out; omega)
              have hd := Lib.hid (drop_cons hp)
              obtain ⟨c0, c1, c2, c3, c4⟩ := (hR.below hb (Nat.le_refl _)).pg hp
              clear hp
              obtain ⟨st, ⟨kd, sq, ad, vl⟩⟩ := p
              dsimp only at *
              go_wp2_with fail
              refine (impl_pageShape ⟨st, ⟨kd, sq, ad, vl⟩⟩ _).mono ?_
              rintro e w2 ⟨rfl, hb2⟩
              have hB2 : Below w.heap.size w w2 := (hb.alloc hb.size _).trans (hb2.mono (by have := hb.size; simp; omega))
              have hM2 : IMap Tryz.prog 3 3 w2 w.heap.size (4 * k + j) (cnt seen) := (hM.alloc _).below hb2 (by have := hM.lt; simp; omega)
              have x0 : w2.cell? ⟨wr.heap.size, 0, none⟩ = some (.int .i64 st) := (hb2.cell (by simp)).trans (by simp)
              have x2 : w2.cell? ⟨wr.heap.size, 2, none⟩ = some (.int .i64 sq) := (hb2.cell (by simp)).trans (by simp)
              clear hb2 hM hb c0 c1 c2 c3 c4
              by_cases hpo : pageOk ⟨st, ⟨kd, sq, ad, vl⟩⟩ = true
              · by_cases hst : st = 1
                · subst hst
                  have hsq : 1 ≤ sq ∧ sq ≤ 600 := by unfold pageOk recOk at hpo; simp at hpo; exact ⟨hpo.2.1, hpo.2.2.1⟩
                  obtain ⟨hs1, hs2⟩ := hsq
                  have hwf : (Lit.int .i64 sq).wf = true := WalkArith.wf_i64 (by omega)
                  have hlook := hM2.look Tryz.underlying126 Tryz.underlying3 Tryz.underlying3 zero_int hwf
                  have hcs := hcn sq
                  by_cases hin : sq ∈ seen
                  · have hpos : 0 < cnt seen sq := cnt_pos.2 hin
                    have hstep : Hid (flashOk f = false) := by rw [Hid, hg.out, hd.out, pagesGo, hpo, if_neg (by simp), if_neg (by simp), if_pos hin]
                    clear hcn hg hd
                    go_wp2
                    go_ret
                    exact ⟨ret_bool hstep.out.symm, hB2⟩
                  · have hz : cnt seen sq = 0 := by have := mt cnt_pos.1 hin; have : 0 ≤ cnt seen sq := by unfold cnt; omega
                                                    omega
                    rw [hz] at hlook
                    have hstep : Hid (flashOk f = pagesGo (sq :: seen) (fun s => blocksGo s (f.drop (k + 1))) (Ps.drop (j + 1))) := by rw [Hid, hg.out, hd.out, pagesGo, hpo, if_neg (by simp), if_neg (by simp), if_neg hin]
                    obtain ⟨w3, hput, hM3, hg3⟩ := hM2.put (k := sq) (v := 1) Tryz.underlying126 Tryz.underlying3 Tryz.underlying3 (by unfold maxLen; omega) hwf (by decide)
                    have hB3 : Below w.heap.size w w3 := hB2.grown hg3 hB2.size (by intro g e; cases e; omega)
                    have hM4 : IMap Tryz.prog 3 3 w3 w.heap.size (4 * k + (j + 1)) (cnt (sq :: seen)) := by
                      have e : (fun x => if x = sq then (1 : Int) else cnt seen x) = cnt (sq :: seen) := by
                        funext x
                        unfold cnt at hz ⊢
                        rw [List.count_cons]
                        by_cases hx : x = sq
                        · subst hx; simp; omega
                        · rw [if_neg hx, if_neg (by simpa using fun h => hx h.symm)]; simp
                      rw [← e]; exact hM3
                    have hcn' : ∀ x, cnt (sq :: seen) x ≤ 4 * k + (j + 1) := by
                      intro x; have := hcn x; unfold cnt at *; rw [List.count_cons]; split <;> omega
                    have HC := Lib.hid hcn'
                    clear hcn hcn' hg hd hM3 hg3 hM2 hB2 hz hin
                    go_wp2
                    go_roundw
                    case rel => exact ⟨j + 1, _, by omega, by go_num, hB3, hM4, HC.out, hstep⟩
                    case measure => simp [intOf]; omega
                · have hstep : Hid (flashOk f = pagesGo seen (fun s => blocksGo s (f.drop (k + 1))) (Ps.drop (j + 1))) := by rw [Hid, hg.out, hd.out, pagesGo, hpo, if_neg (by simp), if_pos (by simpa using hst)]
                  have HC := Lib.hid hcn
                  clear hg hd hcn
                  go_wp2
                  go_roundw
                  case rel => exact ⟨j + 1, seen, by omega, by go_num, hB2, hM2.mono (by omega), by intro x; have := HC.out x; omega, hstep⟩
                  case measure => simp [intOf]; omega
              · go_wp2
                go_ret
                exact ⟨ret_bool (by rw [hg.out, hd.out, pagesGo, if_pos (by simpa using hpo)]), hB2⟩
            · obtain rfl : j = 4 := by omega
              have hstep : Hid (flashOk f = blocksGo seen (f.drop (k + 1))) := by rw [Hid, hg.out, show Ps.drop 4 = [] from List.drop_of_length_le (by have := HL.out; omega)]; rfl
              have HC := Lib.hid hcn
              clear hcn hg
              go_wp2
              go_roundw
              case rel => exact ⟨k + 1, seen, by omega, by go_num, hb, hM.mono (by omega), by intro x; have := HC.out x; omega, hstep⟩
              case measure => simp [intOf]; omega
        · go_wp2
          go_ret
          exact ⟨ret_bool (by rw [hg.out, hd.out, blocksGo, if_pos (by simpa using hbs)]), hB1⟩
      · go_wp2
        go_ret
        obtain rfl : k = 4 := by omega
        exact ⟨ret_bool (by rw [hg.out, List.drop_of_length_le (by have := HN.out; omega)]; rfl), hb⟩
  · have hfin : Hid (flashOk f = false) := by unfold Hid flashOk; simp; omega
    go_enter Tryz.func59, Tryz.ntmps59
    go_wp2
    go_ret
    exact ⟨ret_bool hfin.out.symm, Below.refl _ _⟩
end Go.Proofs.YtohkoogmbfaceaaGreat
namespace Go.Proofs.YtohkoogmbfaceaaGreat
set_option linter.unusedVariables false
set_option linter.unusedSimpArgs false
open Go.RowKit Go.Maps
set_option maxHeartbeats 400000
/-- a page stored: five cells -/
theorem wrote_page {w : World} {b o k : Nat} {ps : List Pg} {q : Pg} (h : Row w (some ⟨b, o, none⟩) (pgs ps)) (hk : ps[k]? = some q) (p : Pg) :
    Wrote w (((((w.setCell ⟨b, o + k * 5, none⟩ (.int .i64 p.state)).setCell ⟨b, o + k * 5 + 1, none⟩ (.int .i64 p.rc.kind)).setCell ⟨b, o + k * 5 + 2, none⟩ (.int .i64 p.rc.seq)).setCell ⟨b, o + k * 5 + 3, none⟩ (.int .i64 p.rc.addr)).setCell ⟨b, o + k * 5 + 4, none⟩ (.int .i64 p.rc.val)) b (o + k * 5) p.vs := by
  refine wrote_setRow b p.vs (o + k * 5) w fun j hj => ?_
  obtain ⟨c0, c1, c2, c3, c4⟩ := h.pg hk
  match j, hj with
  | 0, _ => exact ⟨_, c0⟩
  | 1, _ => exact ⟨_, c1⟩
  | 2, _ => exact ⟨_, c2⟩
  | 3, _ => exact ⟨_, c3⟩
  | 4, _ => exact ⟨_, c4⟩
theorem Row.setPage {w w' : World} {b o k : Nat} {ps : List Pg} {p : Pg} (h : Row w (some ⟨b, o, none⟩) (pgs ps)) (hk : k < ps.length) (hw : Wrote w w' b (o + k * 5) p.vs) : Row w' (some ⟨b, o, none⟩) (pgs (ps.set k p)) := by
  rw [pgs_set ps k p hk]
  exact hw.row h (by rw [pgs_len]; simp [Pg.vs]; omega)

theorem fill_step {α : Type} (p : α) (old : List α) (k : Nat) (h : k < old.length) : (List.replicate k p ++ old.drop k).set k p = List.replicate (k + 1) p ++ old.drop (k + 1) := by
  rw [List.set_append_right _ _ (by simp), List.length_replicate, Nat.sub_self, List.drop_eq_getElem_cons h, List.set_cons_zero, List.replicate_succ']
  simp
theorem impl_fill (b : Nat) (old : List Pg) (p : Pg) (w : World) (hl : old.length = 4) (hR : Row w (some ⟨b, 0, none⟩) (pgs old)) :
    Calls Tryz.prog 58 #[.pointer (some ⟨b, 0, none⟩), .agg #[.int .i64 p.state, .int .i64 p.rc.kind, .int .i64 p.rc.seq, .int .i64 p.rc.addr, .int .i64 p.rc.val]] w fun e w' =>
      e = .returned (.tuple #[]) ∧ Row w' (some ⟨b, 0, none⟩) (pgs (List.replicate 4 p)) ∧ Agr (· = b) w w' := by
  have hbl : b < w.heap.size := hR.lt (pgs_ne (by rintro rfl; simp at hl)) rfl
  have HL := Lib.hid hl
  clear hl
  obtain ⟨st, ⟨kd, sq, ad, vl⟩⟩ := p
  dsimp only
  go_enter Tryz.func58, Tryz.ntmps58
  go_wp2
  go_loopw [5] (fun i wr => ∃ (k : Nat), k ≤ 4 ∧ i = .int .i64 k ∧ Row wr (some ⟨b, 0, none⟩) (pgs (List.replicate k ⟨st, ⟨kd, sq, ad, vl⟩⟩ ++ old.drop k)) ∧ Agr (· = b) (w.alloc (.cells #[.int .i64 st, .int .i64 kd, .int .i64 sq, .int .i64 ad, .int .i64 vl] 71)) wr) (fun i _ => 4 - (intOf i).toNat)
  case atStart => exact ⟨0, by omega, rfl, by simpa using hR.alloc _, Agr.refl _ _⟩
  case round =>
    obtain ⟨k, hk, rfl, hr, hA⟩ := hrel
    by_cases hlt : k < 4
    · have hlen := HL.out
      obtain ⟨q, hq⟩ := get_some (l := List.replicate k (⟨st, ⟨kd, sq, ad, vl⟩⟩ : Pg) ++ old.drop k) (k := k) (by simp; omega)
      have hbox : ∀ i, wr.cell? ⟨w.heap.size, i, none⟩ = (w.alloc (.cells #[.int .i64 st, .int .i64 kd, .int .i64 sq, .int .i64 ad, .int .i64 vl] 71)).cell? ⟨w.heap.size, i, none⟩ := fun i =>
        hA.cell (by simp) (by omega) i
      have b0 : wr.cell? ⟨w.heap.size, 0, none⟩ = some (.int .i64 st) := (hbox 0).trans (by simp)
      have b1 : wr.cell? ⟨w.heap.size, 1, none⟩ = some (.int .i64 kd) := (hbox 1).trans (by simp)
      have b2 : wr.cell? ⟨w.heap.size, 2, none⟩ = some (.int .i64 sq) := (hbox 2).trans (by simp)
      have b3 : wr.cell? ⟨w.heap.size, 3, none⟩ = some (.int .i64 ad) := (hbox 3).trans (by simp)
      have b4 : wr.cell? ⟨w.heap.size, 4, none⟩ = some (.int .i64 vl) := (hbox 4).trans (by simp)
      obtain ⟨c0, c1, c2, c3, c4⟩ := hr.pg hq
      obtain ⟨f0, f1, f2, f3, f4⟩ := hr.pgf hq
      have hW := wrote_page hr hq ⟨st, ⟨kd, sq, ad, vl⟩⟩
      rw [Nat.zero_add] at c0 c1 c2 c3 c4 f0 f1 f2 f3 f4
      clear hbox hq hlen
      go_wp2
      go_region
      go_wp2
      go_roundw
      case rel =>
        refine ⟨k + 1, by omega, by go_num, ?_, ?_⟩
        · have := hr.setPage (k := k) (by have := HL.out; simp; omega) hW
          rw [Nat.zero_add, fill_step _ _ _ (by have := HL.out; omega)] at this
          exact this.drew
        · rw [Nat.zero_add] at hW
          exact (hA.trans hW.agr (fun _ _ h => h)).drew
      case measure => simp [intOf]; omega
    · obtain rfl : k = 4 := by omega
      go_wp2
      go_end0
      refine ⟨rfl, ?_, ?_⟩
      · rw [show old.drop 4 = [] from List.drop_of_length_le (by have := HL.out; omega), List.append_nil] at hr; exact hr
      · exact ((Agr.refl _ _).alloc _).trans hA (fun _ _ h => h)

theorem impl_pagesOf (p : Pg) (w : World) :
    Calls Tryz.prog 40 #[.agg #[.int .i64 p.state, .int .i64 p.rc.kind, .int .i64 p.rc.seq, .int .i64 p.rc.addr, .int .i64 p.rc.val]] w fun e w' =>
      ∃ b, e = .returned (.slice (some ⟨b, 0, none⟩) 4 4) ∧ w.heap.size ≤ b ∧ b < w'.heap.size ∧ Row w' (some ⟨b, 0, none⟩) (pgs (List.replicate 4 p)) ∧ Below w.heap.size w w' := by
  obtain ⟨st, ⟨kd, sq, ad, vl⟩⟩ := p
  dsimp only
  go_enter Tryz.func40, Tryz.ntmps40
  go_wp2_with fail
  have hb0 : Below w.heap.size w ((w.alloc (.cells #[.int .i64 st, .int .i64 kd, .int .i64 sq, .int .i64 ad, .int .i64 vl] 71)).alloc (.cells #[.int .i64 0, .int .i64 0, .int .i64 0, .int .i64 0, .int .i64 0, .int .i64 0, .int .i64 0, .int .i64 0, .int .i64 0, .int .i64 0, .int .i64 0, .int .i64 0, .int .i64 0, .int .i64 0, .int .i64 0, .int .i64 0, .int .i64 0, .int .i64 0, .int .i64 0, .int .i64 0] 92)) := ((Below.refl _ _).alloc (Nat.le_refl _) _).alloc (by simp) _
  have hsz : ∀ (W : World) (o : Obj), (W.alloc o).heap.size = W.heap.size + 1 := fun W o => by simp
  have hsz2 := Lib.hid (hsz (w.alloc (.cells #[.int .i64 st, .int .i64 kd, .int .i64 sq, .int .i64 ad, .int .i64 vl] 71)) (.cells #[.int .i64 0, .int .i64 0, .int .i64 0, .int .i64 0, .int .i64 0, .int .i64 0, .int .i64 0, .int .i64 0, .int .i64 0, .int .i64 0, .int .i64 0, .int .i64 0, .int .i64 0, .int .i64 0, .int .i64 0, .int .i64 0, .int .i64 0, .int .i64 0, .int .i64 0, .int .i64 0] 92))
  clear hsz
  refine (impl_fill (w.heap.size + 1) (List.replicate 4 ⟨0, rc0⟩) ⟨st, ⟨kd, sq, ad, vl⟩⟩ _ rfl ?_).mono ?_
  · have := Row.new (w.alloc (.cells #[.int .i64 st, .int .i64 kd, .int .i64 sq, .int .i64 ad, .int .i64 vl] 71)) #[.int .i64 0, .int .i64 0, .int .i64 0, .int .i64 0, .int .i64 0, .int .i64 0, .int .i64 0, .int .i64 0, .int .i64 0, .int .i64 0, .int .i64 0, .int .i64 0, .int .i64 0, .int .i64 0, .int .i64 0, .int .i64 0, .int .i64 0, .int .i64 0, .int .i64 0, .int .i64 0] 92
    rw [World.size_alloc] at this
    exact this
  · rintro e w1 ⟨rfl, hR, hA⟩
    have hB1 : Below w.heap.size w w1 := hb0.trans (hA.below (by simp; omega) (by rintro i rfl; omega))
    have hs1 : w.heap.size + 1 < w1.heap.size := by have := hA.size; rw [hsz2.out, World.size_alloc] at this; omega
    clear hA hb0 hsz2
    go_wp2
    go_ret
    exact ⟨_, rfl, by omega, hs1, hR, hB1⟩

theorem oneCell_pgs (ps : List Pg) : ∀ v ∈ pgs ps, v.oneCell' = true := by
  intro v hv
  simp only [pgs, List.mem_flatMap] at hv
  obtain ⟨p, _, hp⟩ := hv
  simp only [Pg.vs, List.mem_cons, List.not_mem_nil, or_false] at hp
  rcases hp with rfl | rfl | rfl | rfl | rfl <;> rfl
theorem Tryz.info_page : (Tryz.prog.info? 71).map (·.size) = some 5 := by kernel_rfl
theorem impl_pagesCopy (A : Option Addr) (c : Nat) (ps : List Pg) (w : World) (hl : ps.length = 4) (hR : Row w A (pgs ps)) :
    Calls Tryz.prog 95 #[.slice A 4 c] w fun e w' =>
      ∃ b, e = .returned (.slice (some ⟨b, 0, none⟩) 4 4) ∧ w.heap.size ≤ b ∧ b < w'.heap.size ∧ Row w' (some ⟨b, 0, none⟩) (pgs ps) ∧ Below w.heap.size w w' := by
  obtain ⟨pb, po, rfl⟩ := hR.addr (pgs_ne (by rintro rfl; simp at hl))
  have HL := Lib.hid hl
  clear hl
  have hlen : (pgs ps).length = 20 := by rw [pgs_len, HL.out]
  have hR0 : Row (w.alloc (.cells #[.int .i64 0, .int .i64 0, .int .i64 0, .int .i64 0, .int .i64 0, .int .i64 0, .int .i64 0, .int .i64 0, .int .i64 0, .int .i64 0, .int .i64 0, .int .i64 0, .int .i64 0, .int .i64 0, .int .i64 0, .int .i64 0, .int .i64 0, .int .i64 0, .int .i64 0, .int .i64 0] 92)) (some ⟨w.heap.size, 0, none⟩) (pgs (List.replicate 4 ⟨0, rc0⟩)) := Row.new w #[.int .i64 0, .int .i64 0, .int .i64 0, .int .i64 0, .int .i64 0, .int .i64 0, .int .i64 0, .int .i64 0, .int .i64 0, .int .i64 0, .int .i64 0, .int .i64 0, .int .i64 0, .int .i64 0, .int .i64 0, .int .i64 0, .int .i64 0, .int .i64 0, .int .i64 0, .int .i64 0] _
  obtain ⟨b', o', he, hc⟩ := hR0 (by simp [pgs, Pg.vs])
  cases he
  have hg : ∀ j, j < 20 → ∃ u, (pgs (List.replicate 4 ⟨0, rc0⟩))[j]? = some u := fun j hj => get_some (by rw [pgs_len]; simpa using hj)
  obtain ⟨b', o', he, hc'⟩ := (hR.alloc (.cells #[.int .i64 0, .int .i64 0, .int .i64 0, .int .i64 0, .int .i64 0, .int .i64 0, .int .i64 0, .int .i64 0, .int .i64 0, .int .i64 0, .int .i64 0, .int .i64 0, .int .i64 0, .int .i64 0, .int .i64 0, .int .i64 0, .int .i64 0, .int .i64 0, .int .i64 0, .int .i64 0] 92)) (by intro e; rw [e] at hlen; simp at hlen)
  cases he
  have hcp := run_copy_n (P := Tryz.prog) (w.alloc (.cells #[.int .i64 0, .int .i64 0, .int .i64 0, .int .i64 0, .int .i64 0, .int .i64 0, .int .i64 0, .int .i64 0, .int .i64 0, .int .i64 0, .int .i64 0, .int .i64 0, .int .i64 0, .int .i64 0, .int .i64 0, .int .i64 0, .int .i64 0, .int .i64 0, .int .i64 0, .int .i64 0] 92)) 57 57 3 71 5 w.heap.size 0 4 4 ⟨pb, po, none⟩ 4 c 4 (pgs ps) Tryz.underlying57 Tryz.info_page rfl hlen
    (fun j v hj => by rw [addr_add]; exact (hc' j v hj).1) (fun j hj => by obtain ⟨u, hu⟩ := hg j (by omega); rw [(hc j u hu).1]; rfl) (fun j hj => by obtain ⟨u, hu⟩ := hg j (by omega); exact (hc j u hu).2) (oneCell_pgs ps)
  have hW := wrote_setRow w.heap.size (pgs ps) 0 (w.alloc (.cells #[.int .i64 0, .int .i64 0, .int .i64 0, .int .i64 0, .int .i64 0, .int .i64 0, .int .i64 0, .int .i64 0, .int .i64 0, .int .i64 0, .int .i64 0, .int .i64 0, .int .i64 0, .int .i64 0, .int .i64 0, .int .i64 0, .int .i64 0, .int .i64 0, .int .i64 0, .int .i64 0] 92)) (fun j hj => by obtain ⟨u, hu⟩ := hg j (by omega); exact ⟨u, (hc j u hu).1⟩)
  obtain ⟨W1, hW1⟩ : ∃ W1, (w.alloc (.cells #[.int .i64 0, .int .i64 0, .int .i64 0, .int .i64 0, .int .i64 0, .int .i64 0, .int .i64 0, .int .i64 0, .int .i64 0, .int .i64 0, .int .i64 0, .int .i64 0, .int .i64 0, .int .i64 0, .int .i64 0, .int .i64 0, .int .i64 0, .int .i64 0, .int .i64 0, .int .i64 0] 92)).setCells w.heap.size 0 (pgs ps) = W1 := ⟨_, rfl⟩
  rw [hW1] at hcp hW
  have hr1 : Row W1 (some ⟨w.heap.size, 0, none⟩) (pgs ps) := fun _ => ⟨_, _, rfl, fun j u hj => ⟨by have := hW.new_ j u hj; rw [Nat.zero_add] at this ⊢; exact this, by
    rw [hW.frozen]; have hjl := (List.getElem?_eq_some_iff.1 hj).1; obtain ⟨u', hu'⟩ := hg j (by omega); exact (hc j u' hu').2⟩⟩
  have hs1 : w.heap.size < W1.heap.size := by rw [hW.size, World.size_alloc]; omega
  have hB1 : Below w.heap.size w W1 := ((Below.refl _ _).alloc (Nat.le_refl _) _).trans (hW.agr.below (by simp) (by rintro i rfl; omega))
  clear hW hW1 hc hc' hg hR0 hlen hR HL
  go_enter Tryz.func95, Tryz.ntmps95
  go_wp2
  go_ret
  exact ⟨_, rfl, Nat.le_refl _, hs1, hr1, hB1⟩

theorem make_blocks (w : World) : (Instr.makeSlice 24 (.int .i64 4) (.int .i64 4)).run Tryz.prog w = .ok (.slice (some ⟨w.heap.size, 0, none⟩) 4 4) (w.alloc (.cells #[.slice none 0 0, .int .i64 0, .slice none 0 0, .int .i64 0, .slice none 0 0, .int .i64 0, .slice none 0 0, .int .i64 0] 59)) := by kernel_rfl
theorem impl_flashCopy (A : Option Addr) (c : Nat) (f : List Bk) (w : World) (hl : f.length = 4) (hp : ∀ b ∈ f, b.pages.length = 4) (hF : Fl w A f) :
    Calls Tryz.prog 70 #[.slice A 4 c] w fun e w' =>
      ∃ g, e = .returned (.slice (some ⟨g, 0, none⟩) 4 4) ∧ OFl w' w.heap.size w'.heap.size (some ⟨g, 0, none⟩) f ∧ Below w.heap.size w w' := by
  obtain ⟨hs, hF⟩ := hF
  obtain ⟨bk, off, rfl⟩ := hF.addr (by rintro rfl; simp at hl)
  have HL := Lib.hid hl
  have HP := Lib.hid hp
  clear hl hp
  have hmk := make_blocks
  have hnew := Bks.new w 4 59 #[.slice none 0 0, .int .i64 0, .slice none 0 0, .int .i64 0, .slice none 0 0, .int .i64 0, .slice none 0 0, .int .i64 0] rfl
  have hB0 : Below w.heap.size w (w.alloc (.cells #[.slice none 0 0, .int .i64 0, .slice none 0 0, .int .i64 0, .slice none 0 0, .int .i64 0, .slice none 0 0, .int .i64 0] 59)) := (Below.refl _ _).alloc (Nat.le_refl _) _
  go_enter Tryz.func70, Tryz.ntmps70
  go_wp2
  go_loopw [11] (fun i wr => ∃ (k : Nat) (ks : List (Option Addr × Nat)), k ≤ 4 ∧ i = .int .i64 k ∧ Below w.heap.size w wr ∧ w.heap.size < wr.heap.size ∧ Bks wr (some ⟨w.heap.size, 0, none⟩) (f.take k ++ (List.replicate 4 zbk).drop k) ks ∧ Apt w.heap.size wr.heap.size (some ⟨w.heap.size, 0, none⟩) ks) (fun i _ => 4 - (intOf i).toNat)
  case atStart => exact ⟨0, _, by omega, rfl, hB0, by simp, hnew, (Apt.new _ _).mono (Nat.le_refl _) (by simp)⟩
  case round =>
    clear hnew hB0
    obtain ⟨k, ks, hk, rfl, hb, hsz, hBk, hApt⟩ := hrel
    by_cases hlt : k < 4
    · obtain ⟨B, hB⟩ := get_some (l := f) (k := k) (by have := HL.out; omega)
      have hBl : B.pages.length = 4 := HP.out B (List.mem_of_getElem? hB)
      obtain ⟨⟨Ap, cp⟩, _, c0, c1, _, _, hR, hlc⟩ := hF.at_ hB
      have hbk : bk < w.heap.size := lt_of_cell c0
      replace c0 := (hb.cell (p := ⟨bk, off + k * 2, none⟩) hbk).trans c0
      replace c1 := (hb.cell (p := ⟨bk, off + k * 2 + 1, none⟩) hbk).trans c1
      have hRw := (hR.below hb (Nat.le_refl _))
      have HB := Lib.hid hB
      have HBL := Lib.hid hBl
      rw [hBl] at c0
      clear hbk hB hR hBl hlc
      go_wp2
      have hx0 : (wr.alloc (.cells #[.slice Ap 4 cp, .int .i64 B.worn] 59)).cell? ⟨wr.heap.size, 0, none⟩ = some (.slice Ap 4 cp) := by simp
      have hx1 : (wr.alloc (.cells #[.slice Ap 4 cp, .int .i64 B.worn] 59)).cell? ⟨wr.heap.size, 1, none⟩ = some (.int .i64 B.worn) := by simp
      have hRW := hRw.alloc (.cells #[.slice Ap 4 cp, .int .i64 B.worn] 59)
      have hBW := hBk.alloc (.cells #[.slice Ap 4 cp, .int .i64 B.worn] 59)
      have hbW : Below w.heap.size w (wr.alloc (.cells #[.slice Ap 4 cp, .int .i64 B.worn] 59)) := hb.alloc hb.size _
      have hsW : (wr.alloc (.cells #[.slice Ap 4 cp, .int .i64 B.worn] 59)).heap.size = wr.heap.size + 1 := by simp
      generalize wr.alloc (.cells #[.slice Ap 4 cp, .int .i64 B.worn] 59) = W at *
      have HSW := Lib.hid hsW
      have hne1 : ¬ (w.heap.size = wr.heap.size) := by omega
      have hne2 : ¬ (wr.heap.size = w.heap.size) := by omega
      have HG : Hid ((f.take k ++ (List.replicate 4 zbk).drop k)[k]? = some zbk) := by
        have := HL.out
        rw [Hid, List.getElem?_append_right (by simp; omega), List.getElem?_drop, List.getElem?_replicate, if_pos (by simp; omega)]
      clear hsW hRw hBk hb c0 c1
      go_region_held3 (fun w' => w'.cell? ⟨wr.heap.size, 0, none⟩ = some (.slice Ap 4 cp) ∧ w'.cell? ⟨wr.heap.size, 1, none⟩ = some (.int .i64 B.worn)) (go_keep)
        (first | (go_at_call 95; refine (impl_pagesCopy Ap cp B.pages _ HBL.out (by exact hRW)).mono ?_; rintro e w1 ⟨b, rfl, h1, h2, h3, h4⟩; have y0 := (h4.cell (p := ⟨wr.heap.size, 0, none⟩) (by have := HSW.out; simp; omega)).trans hx0; have y1 := (h4.cell (p := ⟨wr.heap.size, 1, none⟩) (by have := HSW.out; simp; omega)).trans hx1; replace h4 := undrew h4; have hBk1 := hBW.below h4 (Nat.le_refl _); obtain ⟨_, _, z0, z1, z2, z3, _, _⟩ := hBk1.at_ HG.out; rw [Nat.zero_add] at z0 z1 z2 z3))
      have hW := wrote_hdr hBk1 HG.out (.slice (some ⟨b, 0, none⟩) 4 4) (.int .i64 B.worn)
      have hB2 : Below w.heap.size w w1 := hbW.trans (h4.mono (by have := HSW.out; omega))
      have e1 := HL.out
      have e2 := HBL.out
      have e3 := HSW.out
      simp only [World.size_drew] at h1
      have hR2 := hBk1.setBlock (i := k) (x := (some ⟨b, 0, none⟩, 4)) (c := B) (by simp; omega) (fun j y hy e => (hApt.in_ j y _ hy e).2.2 rfl) (by rw [blk_some]; omega) h3 (by omega) (by rw [e2]; exact hW)
      rw [copy_step zbk f 4 k B HB.out e1] at hR2
      have hApt2 := hApt.set (hi' := w1.heap.size) k (some ⟨b, 0, none⟩, 4) (fun c hc => by rw [blk_some] at hc; subst hc; exact ⟨by omega, h2⟩) (by omega) (by omega)
      rw [Nat.zero_add] at hR2 hW
      have hB3 := hB2.trans (hW.agr.below (B := w.heap.size) hB2.size (fun i e => by rw [e]; exact Nat.le_refl _))
      have hs3 := hW.size
      have hs4 : w.heap.size < w1.heap.size := by omega
      have HS3 := Lib.hid hs3
      clear hs3 e1 e2 e3 hW hB2 hBk1
      go_wp2
      go_roundw
      case rel => exact ⟨k + 1, _, by omega, by go_num, hB3, by rw [HS3.out]; exact hs4, hR2, by rw [HS3.out]; exact hApt2⟩
      case measure => simp [intOf]; omega
    · obtain rfl : k = 4 := by omega
      go_wp2
      go_ret
      refine ⟨_, rfl, ⟨ks, ?_, hApt⟩, hb⟩
      have := HL.out
      rw [show (List.replicate 4 zbk).drop 4 = [] from rfl, List.append_nil, List.take_of_length_le (by omega)] at hBk
      exact hBk
end Go.Proofs.YtohkoogmbfaceaaGreat
namespace Go.Proofs.YtohkoogmbfaceaaGreat
set_option linter.unusedVariables false
set_option linter.unusedSimpArgs false
open Go.RowKit Go.Maps
set_option maxHeartbeats 400000
def pg0 : Pg := ⟨0, rc0⟩
def newBlock : Bk := ⟨List.replicate 4 pg0, 0⟩
def flashNew : List Bk := List.replicate 4 newBlock
theorem impl_FlashNew (w : World) :
    Calls Tryz.prog 29 #[] w fun e w' => ∃ g, e = .returned (.slice (some ⟨g, 0, none⟩) 4 4) ∧ OFl w' w.heap.size w'.heap.size (some ⟨g, 0, none⟩) flashNew ∧ Below w.heap.size w w' := by
  have hmk := make_blocks
  have hnew := Bks.new w 4 59 #[.slice none 0 0, .int .i64 0, .slice none 0 0, .int .i64 0, .slice none 0 0, .int .i64 0, .slice none 0 0, .int .i64 0] rfl
  have hB0 : Below w.heap.size w (w.alloc (.cells #[.slice none 0 0, .int .i64 0, .slice none 0 0, .int .i64 0, .slice none 0 0, .int .i64 0, .slice none 0 0, .int .i64 0] 59)) := (Below.refl _ _).alloc (Nat.le_refl _) _
  go_enter Tryz.func29, Tryz.ntmps29
  go_wp2
  go_loopw [6] (fun i wr => ∃ (k : Nat) (ks : List (Option Addr × Nat)), k ≤ 4 ∧ i = .int .i64 k ∧ Below w.heap.size w wr ∧ w.heap.size < wr.heap.size ∧ Bks wr (some ⟨w.heap.size, 0, none⟩) (flashNew.take k ++ (List.replicate 4 zbk).drop k) ks ∧ Apt w.heap.size wr.heap.size (some ⟨w.heap.size, 0, none⟩) ks) (fun i _ => 4 - (intOf i).toNat)
  case atStart => exact ⟨0, _, by omega, rfl, hB0, by simp, hnew, (Apt.new _ _).mono (Nat.le_refl _) (by simp)⟩
  case round =>
    clear hnew hB0
    obtain ⟨k, ks, hk, rfl, hb, hsz, hBk, hApt⟩ := hrel
    by_cases hlt : k < 4
    · have HG : Hid ((flashNew.take k ++ (List.replicate 4 zbk).drop k)[k]? = some zbk) := by
        rw [Hid, List.getElem?_append_right (by simp [flashNew]; omega), List.getElem?_drop, List.getElem?_replicate, if_pos (by simp [flashNew]; omega)]
      go_wp2_with fail
      refine (impl_pagesOf pg0 _).mono ?_
      rintro e w1 ⟨b, rfl, h1, h2, h3, h4⟩
      have hBk1 := hBk.below h4 (Nat.le_refl _)
      obtain ⟨_, _, z0, z1, z2, z3, _, _⟩ := hBk1.at_ HG.out
      have hW := (wrote_one z0 (.slice (some ⟨b, 0, none⟩) 4 4)).more z1
      have hR2 := hBk1.setBlock (i := k) (x := (some ⟨b, 0, none⟩, 4)) (c := newBlock) (by simp [flashNew]; omega) (fun j y hy e => (hApt.in_ j y _ hy e).2.2 rfl) (by rw [blk_some]; omega) h3 (by simp [newBlock]) hW
      rw [copy_step zbk flashNew 4 k newBlock (by rw [flashNew, List.getElem?_replicate, if_pos hlt]) rfl] at hR2
      have hApt2 := hApt.set (hi' := w1.heap.size) k (some ⟨b, 0, none⟩, 4) (fun c hc => by rw [blk_some] at hc; subst hc; exact ⟨by omega, h2⟩) (by omega) (by omega)
      have hB2 : Below w.heap.size w w1 := hb.trans (h4.mono (by omega))
      have hB3 := hB2.trans (hW.agr.below (B := w.heap.size) hB2.size (fun i e => by rw [e]; exact Nat.le_refl _))
      have hs4 : w.heap.size < w1.heap.size := by omega
      rw [Nat.zero_add] at z0 z1 z2 z3 hR2 hB3
      have HS3 := Lib.hid hW.size
      rw [Nat.zero_add] at HS3
      clear hW hB2 hBk1 hBk h4
      go_wp2
      go_roundw
      case rel => exact ⟨k + 1, _, by omega, by go_num, hB3, by rw [HS3.out]; exact hs4, hR2, by rw [HS3.out]; exact hApt2⟩
      case measure => simp [intOf]; omega
    · obtain rfl : k = 4 := by omega
      go_wp2
      go_ret
      exact ⟨_, rfl, ⟨ks, hBk, hApt⟩, hb⟩

/-- block i wiped -/
def wipe (f : List Bk) (i : Nat) (torn : Bool) : List Bk :=
  f.set i ⟨List.replicate 4 (if torn then ⟨2, rc0⟩ else pg0), (f.getD i zbk).worn + 1⟩
/-- what FlashWipe answers, of an ok flash and a block that is there -/
def flashWipe (f : List Bk) (block : Int) (torn : Bool) : List Bk × Bool :=
  if flashOk f = false ∨ blockB block = false then ([], false) else if (f.getD block.toNat zbk).worn = 200 then (f, false) else (wipe f block.toNat torn, true)
/-- two results: a flash of the call's own, and a bool -/
def FlPost (r : List Bk × Bool) (w : World) (e : Ending) (w' : World) : Prop :=
  ∃ A c, e = .returned (.tuple #[.slice A r.1.length c, .bool r.2]) ∧ r.1.length ≤ c ∧ OFl w' w.heap.size w'.heap.size A r.1 ∧ Below w.heap.size w w'
theorem ofl_nil (w : World) (lo hi : Nat) : OFl w lo hi none [] :=
  ⟨[], ⟨rfl, Row.nil _ _, fun _ _ _ h _ => absurd h (by simp)⟩, ⟨fun _ h => (by cases h), fun _ _ _ h _ => absurd h (by simp), fun _ _ _ _ _ h _ _ _ => absurd h (by simp)⟩⟩
/-- block i of a flash of one's own is replaced by newer pages -/
theorem OFl.replaced {w3 w4 w5 : World} {lo g b i n : Nat} {f : List Bk} {hs : List (Option Addr × Nat)} {c : Bk} (hBk : Bks w3 (some ⟨g, 0, none⟩) f hs) (hApt : Apt lo w3.heap.size (some ⟨g, 0, none⟩) hs) (hi : i < f.length)
    (h1 : w3.heap.size ≤ b) (h2 : b < w4.heap.size) (h3 : Row w4 (some ⟨b, 0, none⟩) (pgs c.pages)) (h4 : Below w3.heap.size w3 w4) (hc : c.pages.length = n) (hlo : lo ≤ w3.heap.size) (hW : Wrote w4 w5 g (0 + i * 2) [.slice (some ⟨b, 0, none⟩) n n, .int .i64 c.worn]) :
    OFl w5 lo w5.heap.size (some ⟨g, 0, none⟩) (f.set i c) ∧ Below lo w3 w5 := by
  subst hc
  have hBk1 := hBk.below h4 (Nat.le_refl _)
  have hg := hApt.top g (by rw [blk_some])
  have hs4 := h4.size
  refine ⟨⟨_, hBk1.setBlock (i := i) (x := (some ⟨b, 0, none⟩, c.pages.length)) (c := c) hi (fun j y hy e => (hApt.in_ j y _ hy e).2.2 rfl) (by rw [blk_some]; omega) h3 (Nat.le_refl _) hW, ?_⟩, ?_⟩
  · rw [hW.size]
    exact hApt.set (hi' := w4.heap.size) i _ (fun d hd => by rw [blk_some] at hd; omega) hlo (by omega)
  · exact (h4.mono hlo).trans (hW.agr.below (by omega) (fun k e => by rw [e]; exact hg.1))
theorem impl_FlashWipe (f : List Bk) (block : Int) (torn : Bool) (A : Option Addr) (c : Nat) (w : World) (hF : Fl w A f) :
    Calls Tryz.prog 92 #[.slice A f.length c, .int .i64 block, .bool torn] w (FlPost (flashWipe f block torn) w) := by
  by_cases hok : flashOk f = true
  · by_cases hbo : blockB block = true
    · have hb04 : 0 ≤ block ∧ block < 4 := by unfold blockB at hbo; simpa using hbo
      obtain ⟨i, rfl⟩ := Int.eq_ofNat_of_zero_le hb04.1
      have hi4 : i < 4 := by omega
      have hl := flashOk_len hok
      have hsh := flashOk_shape hok
      have HL := Lib.hid hl
      obtain ⟨B, hB⟩ := get_some (l := f) (k := i) (by omega)
      have hBm := hsh B (List.mem_of_getElem? hB)
      have hBget : f.getD i zbk = B := by rw [List.getD_eq_getElem?_getD, hB]; rfl
      have HSH := Lib.hid hsh
      clear hsh hb04 hl
      go_enter Tryz.func92, Tryz.ntmps92
      go_wp2_with fail
      refine (impl_FlashOk f A c _ hF).mono ?_
      rintro e w1 ⟨rfl, hb⟩
      rw [hok]
      go_wp2_with fail
      refine (impl_blockOk _ _).mono ?_
      rintro e w2 ⟨rfl, rfl⟩
      rw [hbo]
      go_wp2_with fail
      rw [HL.out]
      refine (impl_flashCopy A c f _ HL.out (fun b hb => (HSH.out b hb).1) (hF.below hb (Nat.le_refl _))).mono ?_
      rintro e w3 ⟨g, rfl, ⟨hs, hBk, hApt⟩, hb3⟩
      obtain ⟨x, hx, z0, z1, z2, z3, hR, _⟩ := hBk.at_ hB
      rw [Nat.zero_add] at z0 z1 z2 z3
      obtain ⟨hw1, hw2, hw3⟩ := hBm
      have hB3 : Below w.heap.size w w3 := hb.trans (hb3.mono hb.size)
      have hg := hApt.top g (by rw [blk_some])
      by_cases h200 : B.worn = 200
      · have hfin : Hid (flashWipe f i torn = (f, false)) := by unfold Hid flashWipe; rw [hok, hbo, Int.toNat_natCast, hBget]; simp [h200]
        rw [h200] at z1
        go_wp2
        go_ret2
        rw [hfin.out]
        exact ⟨some ⟨g, 0, none⟩, 4, ret_sl HL.out.symm, by rw [HL.out]; exact Nat.le_refl _, ⟨hs, hBk, hApt.mono hb.size (Nat.le_refl _)⟩, hB3⟩
      · have hfin : Hid (flashWipe f i torn = (wipe f i torn, true)) := by unfold Hid flashWipe; rw [hok, hbo, Int.toNat_natCast, hBget]; simp [h200]
        have hlt : B.worn < 200 := by omega
        have hi4' : (i : Int) < 4 := by omega
        have hi0 : (0 : Int) ≤ i := by omega
        have hwr : IntKind.i64.wrap (B.worn + 1) = B.worn + 1 := IntWalk.i64_in _ (by omega)
        cases torn
        · go_wp2
          go_region_law (first | (go_simp; go_at_call 40; refine (impl_pagesOf ⟨0, rc0⟩ _).mono ?_; rintro e w4 ⟨b, rfl, h1, h2, h3, h4⟩; replace h4 := undrew h4; have y1 := (h4.cell (p := ⟨g, i * 2 + 1, none⟩) hg.2).trans z1; have y0 := (h4.cell (p := ⟨g, i * 2, none⟩) hg.2).trans z0; have y2 := (h4.frozen (p := ⟨g, i * 2, none⟩) hg.2).trans z2; have y3 := (h4.frozen (p := ⟨g, i * 2 + 1, none⟩) hg.2).trans z3))
          all_goals
            have hBk1 := hBk.below h4 (Nat.le_refl _)
            have hW := wrote_hdr hBk1 hB (.slice (some ⟨b, 0, none⟩) 4 4) (.int .i64 (B.worn + 1))
            obtain ⟨hO, hb5⟩ := OFl.replaced (c := ⟨List.replicate 4 ⟨0, rc0⟩, B.worn + 1⟩) hBk hApt (by have := HL.out; omega) h1 h2 h3 h4 (by simp) hb3.size hW
            rw [Nat.zero_add] at hO hb5
            have hBf : Below w.heap.size w _ := hB3.trans (hb5.mono hb.size)
            have hO' := hO.mono hb.size (Nat.le_refl _)
            clear hO hb5 hW hBk1
            go_wp2
            go_ret2
            rw [hfin.out]
            have el : (wipe f i false).length = 4 := by unfold wipe; rw [List.length_set]; exact HL.out
            exact ⟨some ⟨g, 0, none⟩, 4, ret_sl el.symm, by rw [el]; exact Nat.le_refl _, by unfold wipe; rw [hBget]; exact hO', hBf⟩
        · go_wp2
          go_region_law (first | (go_simp; go_at_call 40; refine (impl_pagesOf ⟨2, rc0⟩ _).mono ?_; rintro e w4 ⟨b, rfl, h1, h2, h3, h4⟩; replace h4 := undrew h4; have y1 := (h4.cell (p := ⟨g, i * 2 + 1, none⟩) hg.2).trans z1; have y0 := (h4.cell (p := ⟨g, i * 2, none⟩) hg.2).trans z0; have y2 := (h4.frozen (p := ⟨g, i * 2, none⟩) hg.2).trans z2; have y3 := (h4.frozen (p := ⟨g, i * 2 + 1, none⟩) hg.2).trans z3))
          all_goals
            have hBk1 := hBk.below h4 (Nat.le_refl _)
            have hW := wrote_hdr hBk1 hB (.slice (some ⟨b, 0, none⟩) 4 4) (.int .i64 (B.worn + 1))
            obtain ⟨hO, hb5⟩ := OFl.replaced (c := ⟨List.replicate 4 ⟨2, rc0⟩, B.worn + 1⟩) hBk hApt (by have := HL.out; omega) h1 h2 h3 h4 (by simp) hb3.size hW
            rw [Nat.zero_add] at hO hb5
            have hBf : Below w.heap.size w _ := hB3.trans (hb5.mono hb.size)
            have hO' := hO.mono hb.size (Nat.le_refl _)
            clear hO hb5 hW hBk1
            go_wp2
            go_ret2
            rw [hfin.out]
            have el : (wipe f i true).length = 4 := by unfold wipe; rw [List.length_set]; exact HL.out
            exact ⟨some ⟨g, 0, none⟩, 4, ret_sl el.symm, by rw [el]; exact Nat.le_refl _, by unfold wipe; rw [hBget]; exact hO', hBf⟩
    · have hfin : Hid (flashWipe f block torn = ([], false)) := by unfold Hid flashWipe; simp [hbo]
      have ho : blockB block = false := by simpa using hbo
      go_enter Tryz.func92, Tryz.ntmps92
      go_wp2_with fail
      refine (impl_FlashOk f A c _ hF).mono ?_
      rintro e w1 ⟨rfl, hb⟩
      rw [hok]
      go_wp2_with fail
      refine (impl_blockOk _ _).mono ?_
      rintro e w2 ⟨rfl, rfl⟩
      rw [ho]
      go_wp2
      go_ret2
      rw [hfin.out]
      exact ⟨none, 0, rfl, Nat.le_refl _, ofl_nil _ _ _, hb⟩
  · have hfin : Hid (flashWipe f block torn = ([], false)) := by unfold Hid flashWipe; simp [hok]
    have ho : flashOk f = false := by simpa using hok
    go_enter Tryz.func92, Tryz.ntmps92
    go_wp2_with fail
    refine (impl_FlashOk f A c _ hF).mono ?_
    rintro e w1 ⟨rfl, hb⟩
    rw [ho]
    go_wp2
    go_ret2
    rw [hfin.out]
    exact ⟨none, 0, rfl, Nat.le_refl _, ofl_nil _ _ _, hb⟩
end Go.Proofs.YtohkoogmbfaceaaGreat
namespace Go.Proofs.YtohkoogmbfaceaaGreat
set_option linter.unusedVariables false
set_option linter.unusedSimpArgs false
def isClean (p : Pg) : Bool := decide (p.state = 0)
def clean (b : Bk) : Nat := b.pages.countP isClean
def hasSeq (s : Int) (p : Pg) : Bool := decide (p.state = 1) && decide (p.rc.seq = s)
def seqIn (f : List Bk) (s : Int) : Bool := f.any fun b => b.pages.any (hasSeq s)
def lastStep (addr : Int) (o : Rc) (p : Pg) : Rc := if p.state = 1 ∧ p.rc.addr = addr ∧ o.seq < p.rc.seq then p.rc else o
def lastPs (addr : Int) (o : Rc) (ps : List Pg) : Rc := ps.foldl (lastStep addr) o
def last (f : List Bk) (addr : Int) : Rc := f.foldl (fun o b => lastPs addr o b.pages) rc0
def live (f : List Bk) (p : Pg) : Bool := decide (p.state = 1) && decide (last f p.rc.addr = p.rc)
def mostPs (n : Int) (ps : List Pg) : Int := ps.foldl (fun n p => max n p.rc.seq) n
def most (b : Bk) : Int := mostPs 0 b.pages
def leastStep (n : Int) (p : Pg) : Int := if 0 < p.rc.seq ∧ (n = 0 ∨ p.rc.seq < n) then p.rc.seq else n
def least (b : Bk) : Int := b.pages.foldl leastStep 0
def topSeq (f : List Bk) : Int := f.foldl (fun n b => max n (most b)) 0
def next (f : List Bk) : Int := topSeq f + 1
def openGo (f : List Bk) : Nat → Int → List Bk → Int × Bool
  | _, out, [] => (max out 0, decide (0 ≤ out))
  | i, out, b :: r => if 0 < clean b ∧ clean b < 4 then (i, true) else if 0 < clean b ∧ (out < 0 ∨ b.worn < (f.getD out.toNat zbk).worn) then openGo f (i + 1) i r else openGo f (i + 1) out r
def openB (f : List Bk) : Int × Bool := openGo f 0 (-1) f
def oldGo (f : List Bk) : Nat → Nat → List Bk → Nat
  | _, out, [] => out
  | i, out, b :: r => if most b < most (f.getD out zbk) then oldGo f (i + 1) i r else oldGo f (i + 1) out r
def old (f : List Bk) : Nat := oldGo f 1 0 (f.drop 1)
end Go.Proofs.YtohkoogmbfaceaaGreat
namespace Go.Proofs.YtohkoogmbfaceaaGreat
set_option linter.unusedVariables false
set_option linter.unusedSimpArgs false
def seqsP (ps : List Pg) : List Int := (ps.filter fun p => decide (p.state = 1)).map fun p => p.rc.seq
def seqsF (f : List Bk) : List Int := f.flatMap fun b => seqsP b.pages
theorem seqsP_cons (p : Pg) (ps : List Pg) : seqsP (p :: ps) = if p.state = 1 then p.rc.seq :: seqsP ps else seqsP ps := by
  unfold seqsP
  rw [List.filter_cons]
  by_cases h : p.state = 1 <;> simp [h]
theorem pagesGo_iff (k : List Int → Bool) : ∀ (ps : List Pg) (seen : List Int), pagesGo seen k ps = true ↔ (∀ p ∈ ps, pageOk p = true) ∧ (seqsP ps).Nodup ∧ (∀ q ∈ seqsP ps, q ∉ seen) ∧ k ((seqsP ps).reverse ++ seen) = true
  | [], seen => by simp [pagesGo, seqsP]
  | p :: ps, seen => by
    unfold pagesGo
    rw [seqsP_cons]
    by_cases h1 : pageOk p = false
    · simp [h1]
    · have h1' : pageOk p = true := by simpa using h1
      rw [if_neg h1]
      by_cases h2 : p.state = 1
      · rw [if_neg (by simpa using h2), if_pos h2]
        by_cases h3 : p.rc.seq ∈ seen
        · rw [if_pos h3]
          constructor
          · intro h; cases h
          · rintro ⟨_, _, h, _⟩; exact absurd h3 (h _ (List.mem_cons_self ..))
        · rw [if_neg h3, pagesGo_iff k ps]
          constructor
          · rintro ⟨a, b, c, d⟩
            refine ⟨?_, List.nodup_cons.2 ⟨fun hm => c _ hm (List.mem_cons_self ..), b⟩, ?_, ?_⟩
            · intro q hq; rcases List.mem_cons.1 hq with rfl | hq; exact h1'; exact a q hq
            · intro q hq; rcases List.mem_cons.1 hq with rfl | hq; exact h3; exact fun hm => c q hq (List.mem_cons_of_mem _ hm)
            · rw [List.reverse_cons, List.append_assoc]; exact d
          · rintro ⟨a, b, c, d⟩
            obtain ⟨b1, b2⟩ := List.nodup_cons.1 b
            refine ⟨fun q hq => a q (List.mem_cons_of_mem _ hq), b2, ?_, ?_⟩
            · intro q hq hm
              rcases List.mem_cons.1 hm with rfl | hm
              · exact b1 hq
              · exact c q (List.mem_cons_of_mem _ hq) hm
            · rw [List.reverse_cons, List.append_assoc] at d; exact d
      · rw [if_pos h2, if_neg h2, pagesGo_iff k ps]
        constructor
        · rintro ⟨a, b⟩
          exact ⟨fun q hq => by rcases List.mem_cons.1 hq with rfl | hq; exact h1'; exact a q hq, b⟩
        · rintro ⟨a, b⟩
          exact ⟨fun q hq => a q (List.mem_cons_of_mem _ hq), b⟩
theorem blocksGo_iff : ∀ (f : List Bk) (seen : List Int), blocksGo seen f = true ↔ (∀ b ∈ f, blockShape b = true ∧ ∀ p ∈ b.pages, pageOk p = true) ∧ (seqsF f).Nodup ∧ (∀ q ∈ seqsF f, q ∉ seen)
  | [], seen => by simp [blocksGo, seqsF]
  | b :: f, seen => by
    unfold blocksGo
    rw [show seqsF (b :: f) = seqsP b.pages ++ seqsF f from by simp [seqsF]]
    by_cases h1 : blockShape b = false
    · simp [h1]
    · have h1' : blockShape b = true := by simpa using h1
      rw [if_neg h1, pagesGo_iff, blocksGo_iff f]
      constructor
      · rintro ⟨a, b1, c, d, e, g⟩
        refine ⟨fun x hx => ?_, List.nodup_append.2 ⟨b1, e, fun x hx y hy hxy => ?_⟩, fun q hq => ?_⟩
        · rcases List.mem_cons.1 hx with rfl | hx
          · exact ⟨h1', a⟩
          · exact d x hx
        · subst hxy; exact g x hy (List.mem_append_left _ (List.mem_reverse.2 hx))
        · rcases List.mem_append.1 hq with hq | hq
          · exact c q hq
          · exact fun hm => g q hq (List.mem_append_right _ hm)
      · rintro ⟨a, b1, c⟩
        obtain ⟨n1, n2, n3⟩ := List.nodup_append.1 b1
        refine ⟨(a b (List.mem_cons_self ..)).2, n1, fun q hq => c q (List.mem_append_left _ hq), fun x hx => a x (List.mem_cons_of_mem _ hx), n2, fun q hq hm => ?_⟩
        rcases List.mem_append.1 hm with hm | hm
        · exact n3 q (List.mem_reverse.1 hm) q hq rfl
        · exact c q (List.mem_append_right _ hq) hm
theorem flashOk_iff (f : List Bk) : flashOk f = true ↔ f.length = 4 ∧ (∀ b ∈ f, blockShape b = true ∧ ∀ p ∈ b.pages, pageOk p = true) ∧ (seqsF f).Nodup := by
  unfold flashOk
  rw [Bool.and_eq_true, decide_eq_true_iff, blocksGo_iff]
  constructor
  · rintro ⟨a, b, c, _⟩; exact ⟨a, b, c⟩
  · rintro ⟨a, b, c⟩; exact ⟨a, b, c, fun _ _ h => by cases h⟩
/-- a block without numbers put in the place of another -/
theorem seqsF_set : ∀ (f : List Bk) (i : Nat) (b : Bk), seqsP b.pages = [] → (seqsF (f.set i b)).Sublist (seqsF f)
  | [], i, b, h => by simp
  | c :: f, 0, b, h => by
    rw [List.set_cons_zero, show seqsF (b :: f) = seqsP b.pages ++ seqsF f from by simp [seqsF], show seqsF (c :: f) = seqsP c.pages ++ seqsF f from by simp [seqsF], h]
    exact List.sublist_append_right _ _
  | c :: f, i + 1, b, h => by
    rw [List.set_cons_succ, show seqsF (c :: f.set i b) = seqsP c.pages ++ seqsF (f.set i b) from by simp [seqsF], show seqsF (c :: f) = seqsP c.pages ++ seqsF f from by simp [seqsF]]
    exact (seqsF_set f i b h).append_left _
theorem getD_mem {f : List Bk} {i : Nat} (h : i < f.length) : f.getD i zbk ∈ f := by
  rw [List.getD_eq_getElem?_getD, List.getElem?_eq_getElem h]
  exact List.getElem_mem h
theorem wiped_ok {f : List Bk} (h : flashOk f = true) {i : Nat} (hi : i < 4) (torn : Bool) (hw : (f.getD i zbk).worn ≠ 200) : flashOk (wipe f i torn) = true := by
  have hs := flashOk_shape h _ (getD_mem (i := i) (by have := flashOk_len h; omega))
  rw [flashOk_iff] at h ⊢
  obtain ⟨a, b, c⟩ := h
  have key : blockShape ⟨List.replicate 4 (if torn then ⟨2, rc0⟩ else pg0), (f.getD i zbk).worn + 1⟩ = true := by
    unfold blockShape
    have h1 : 0 ≤ (f.getD i zbk).worn + 1 := by omega
    have h2 : (f.getD i zbk).worn + 1 ≤ 200 := by omega
    simp only [h1, h2, decide_true, Bool.true_and, List.length_replicate]
    cases torn <;> decide
  refine ⟨by unfold wipe; simpa using a, fun x hx => ?_, (seqsF_set f i _ ?_).nodup c⟩
  · unfold wipe at hx
    rcases List.mem_or_eq_of_mem_set hx with hx | rfl
    · exact b x hx
    · refine ⟨key, fun p hp => ?_⟩
      have := List.eq_of_mem_replicate hp
      subst this
      cases torn <;> decide
  · show seqsP (List.replicate 4 (if torn then ⟨2, rc0⟩ else pg0)) = []
    cases torn <;> decide
theorem wipe_at {f : List Bk} {i : Nat} (h : i < f.length) (torn : Bool) : (wipe f i torn)[i]? = some ⟨List.replicate 4 (if torn then ⟨2, rc0⟩ else pg0), (f.getD i zbk).worn + 1⟩ := by
  unfold wipe; rw [List.getElem?_set_self h]
theorem wipe_ne {f : List Bk} {i j : Nat} (h : j ≠ i) (torn : Bool) : (wipe f i torn)[j]? = f[j]? := by
  unfold wipe; rw [List.getElem?_set_ne (by omega)]
end Go.Proofs.YtohkoogmbfaceaaGreat
namespace Go.Proofs.YtohkoogmbfaceaaGreat
set_option linter.unusedVariables false
set_option linter.unusedSimpArgs false
open Go.RowKit Go.Maps
set_option maxHeartbeats 400000
theorem spec_l2Clean (b : Bk) (A : Option Addr) (c : Nat) (w : World) (hl : b.pages.length < 1000000000000) (hR : Row w A (pgs b.pages)) :
    Calls Tryz.prog 72 #[.agg #[.slice A b.pages.length c, .int .i64 b.worn]] w fun e w' => e = .returned (.int .i64 (clean b)) ∧ Below w.heap.size w w' := by
  obtain ⟨ps, n⟩ := b
  dsimp only at *
  have hT : Hid ((clean ⟨ps, n⟩ : Int) = 0 + (ps.drop 0).countP isClean) := by unfold Hid clean; simp
  go_enter Tryz.func72, Tryz.ntmps72
  go_wp2
  go_loopw [3, 4] (fun q i wr => ∃ (k m : Nat), k ≤ ps.length ∧ i = .int .i64 k ∧ q = .int .i64 m ∧ m ≤ k ∧ wr = w.alloc (.cells #[.slice A ps.length c, .int .i64 n] 59) ∧ Hid ((clean ⟨ps, n⟩ : Int) = m + (ps.drop k).countP isClean)) (fun _ i _ => ps.length - (intOf i).toNat)
  case atStart => exact ⟨0, 0, by omega, rfl, rfl, by omega, rfl, hT⟩
  case round =>
    clear hT
    obtain ⟨k, m, hk, rfl, rfl, hm, rfl, hT⟩ := hrel
    by_cases hlt : k < ps.length
    · obtain ⟨p, hp⟩ := get_some hlt
      obtain ⟨bk, o, rfl⟩ := hR.addr (pgs_ne (by rintro rfl; simp at hlt))
      obtain ⟨c0, _⟩ := (hR.alloc (.cells #[.slice (some ⟨bk, o, none⟩) ps.length c, .int .i64 n] 59)).pg hp
      have hd := Lib.hid (drop_cons hp)
      have hk1 : (k : Int) < ps.length := by omega
      clear hp
      by_cases h0 : p.state = 0
      · have hi : Hid (isClean p = true) := by unfold Hid isClean; simp [h0]
        rw [h0] at c0
        clear h0
        go_wp2
        go_roundw
        case rel => exact ⟨k + 1, m + 1, by omega, by go_num, by go_num, by omega, by trivial, by rw [Hid, hT.out, hd.out, List.countP_cons, hi.out]; simp; omega⟩
        case measure => simp [intOf]; omega
      · have hi : Hid (isClean p = false) := by unfold Hid isClean; simp [h0]
        go_wp2
        go_roundw
        case rel => exact ⟨k + 1, m, by omega, by go_num, rfl, by omega, by trivial, by rw [Hid, hT.out, hd.out, List.countP_cons, hi.out]; simp⟩
        case measure => simp [intOf]; omega
    · obtain rfl : k = ps.length := by omega
      go_wp2
      go_ret
      exact ⟨ret_int (by rw [hT.out, List.drop_of_length_le (Nat.le_refl _)]; simp), by (repeat (first | (with_reducible exact Below.refl _ _) | (with_reducible assumption) | (refine Below.setCell ?_ (by first | omega | exact hB.size | exact hb.size | (have h := hB.size; simp; omega) | (have h := hb.size; simp; omega) | (simp; omega) | simp) _) | (refine Below.alloc ?_ (by first | omega | exact hB.size | exact hb.size | (have h := hB.size; simp; omega) | (have h := hb.size; simp; omega) | (simp; omega) | simp) _) | (refine Below.drew ?_)))⟩
theorem spec_l3Most (b : Bk) (A : Option Addr) (c : Nat) (w : World) (hl : b.pages.length < 1000000000000) (hR : Row w A (pgs b.pages)) :
    Calls Tryz.prog 74 #[.agg #[.slice A b.pages.length c, .int .i64 b.worn]] w fun e w' => e = .returned (.int .i64 (most b)) ∧ Below w.heap.size w w' := by
  obtain ⟨ps, n⟩ := b
  dsimp only at *
  have hT : Hid (most ⟨ps, n⟩ = mostPs 0 (ps.drop 0)) := rfl
  go_enter Tryz.func74, Tryz.ntmps74
  go_wp2
  go_loopw [3, 4] (fun q i wr => ∃ (k : Nat) (m : Int), k ≤ ps.length ∧ i = .int .i64 k ∧ q = .int .i64 m ∧ wr = w.alloc (.cells #[.slice A ps.length c, .int .i64 n] 59) ∧ Hid (most ⟨ps, n⟩ = mostPs m (ps.drop k))) (fun _ i _ => ps.length - (intOf i).toNat)
  case atStart => exact ⟨0, 0, by omega, rfl, rfl, rfl, hT⟩
  case round =>
    clear hT
    obtain ⟨k, m, hk, rfl, rfl, rfl, hT⟩ := hrel
    by_cases hlt : k < ps.length
    · obtain ⟨p, hp⟩ := get_some hlt
      obtain ⟨bk, o, rfl⟩ := hR.addr (pgs_ne (by rintro rfl; simp at hlt))
      obtain ⟨c0, c1, c2, c3, c4⟩ := (hR.alloc (.cells #[.slice (some ⟨bk, o, none⟩) ps.length c, .int .i64 n] 59)).pg hp
      have hd := Lib.hid (drop_cons hp)
      have hk1 : (k : Int) < ps.length := by omega
      clear hp
      go_wp2
      go_roundw
      case rel => exact ⟨k + 1, max m p.rc.seq, by omega, by go_num, by congr 1; split <;> omega, by trivial, by rw [Hid, hT.out, hd.out]; rfl⟩
      case measure => simp [intOf]; omega
    · obtain rfl : k = ps.length := by omega
      go_wp2
      go_ret
      exact ⟨ret_int (by rw [hT.out, List.drop_of_length_le (Nat.le_refl _)]; rfl), by (repeat (first | (with_reducible exact Below.refl _ _) | (with_reducible assumption) | (refine Below.setCell ?_ (by first | omega | exact hB.size | exact hb.size | (have h := hB.size; simp; omega) | (have h := hb.size; simp; omega) | (simp; omega) | simp) _) | (refine Below.alloc ?_ (by first | omega | exact hB.size | exact hb.size | (have h := hB.size; simp; omega) | (have h := hb.size; simp; omega) | (simp; omega) | simp) _) | (refine Below.drew ?_)))⟩
end Go.Proofs.YtohkoogmbfaceaaGreat
namespace Go.Proofs.YtohkoogmbfaceaaGreat
set_option linter.unusedVariables false
set_option linter.unusedSimpArgs false
open Go.RowKit Go.Maps
set_option maxHeartbeats 400000
def bkHas (s : Int) (b : Bk) : Bool := b.pages.any (hasSeq s)
theorem spec_l2Seq (f : List Bk) (s : Int) (A : Option Addr) (c : Nat) (w : World) (hl : f.length < 1000000000000) (hp : ∀ b ∈ f, b.pages.length < 1000000000000) (hF : Fl w A f) :
    Calls Tryz.prog 73 #[.slice A f.length c, .int .i64 s] w fun e w' => e = .returned (.bool (seqIn f s)) ∧ w = w' := by
  obtain ⟨hs, hBk⟩ := hF
  have HP := Lib.hid hp
  have hT : Hid (seqIn f s = (f.drop 0).any (bkHas s)) := rfl
  clear hp
  go_enter Tryz.func73, Tryz.ntmps73
  go_wp2
  go_loop [5] (fun i => ∃ (k : Nat), k ≤ f.length ∧ i = .int .i64 k ∧ Hid (seqIn f s = (f.drop k).any (bkHas s))) (fun i => f.length - (intOf i).toNat)
  case atStart => exact ⟨0, by omega, rfl, hT⟩
  case round =>
    clear hT
    obtain ⟨k, hk, rfl, hT⟩ := hrel
    by_cases hlt : k < f.length
    · obtain ⟨B, hB⟩ := get_some hlt
      obtain ⟨g, o, rfl⟩ := hBk.addr (by rintro rfl; simp at hlt)
      obtain ⟨⟨Ap, cp⟩, _, z0, _, _, _, hR, _⟩ := hBk.at_ hB
      have hd := Lib.hid (drop_cons hB)
      have hpl := HP.out B (List.mem_of_getElem? hB)
      have hk1 : (k : Int) < f.length := by omega
      obtain ⟨ps, n⟩ := B
      dsimp only at *
      have hT0 : Hid (seqIn f s = ((ps.drop 0).any (hasSeq s) || (f.drop (k + 1)).any (bkHas s))) := by rw [Hid, hT.out, hd.out]; rfl
      clear hB hT hd
      go_wp2
      go_loop [6] (fun j => ∃ (m : Nat), m ≤ ps.length ∧ j = .int .i64 m ∧ Hid (seqIn f s = ((ps.drop m).any (hasSeq s) || (f.drop (k + 1)).any (bkHas s)))) (fun j => ps.length - (intOf j).toNat)
      case atStart => exact ⟨0, by omega, rfl, hT0⟩
      case round =>
        clear hT0
        obtain ⟨m, hm, rfl, hT⟩ := hrel
        by_cases hltm : m < ps.length
        · obtain ⟨p, hq⟩ := get_some hltm
          obtain ⟨pb, po, rfl⟩ := hR.addr (pgs_ne (by rintro rfl; simp at hltm))
          obtain ⟨c0, c1, c2, c3, c4⟩ := hR.pg hq
          have hd := Lib.hid (drop_cons hq)
          have hm1 : (m : Int) < ps.length := by omega
          have hT1 : Hid (seqIn f s = (hasSeq s p || ((ps.drop (m + 1)).any (hasSeq s) || (f.drop (k + 1)).any (bkHas s)))) := by rw [Hid, hT.out, hd.out, List.any_cons, Bool.or_assoc]
          clear hq hT hd
          by_cases h1 : p.state = 1
          · by_cases h2 : p.rc.seq = s
            · have hi : Hid (hasSeq s p = true) := by unfold Hid hasSeq; simp [h1, h2]
              rw [h1] at c0
              rw [h2] at c2
              clear h1 h2
              go_wp2
              go_ret
              exact ⟨ret_bool (by rw [hT1.out, hi.out]; rfl), rfl⟩
            · have hi : Hid (hasSeq s p = false) := by unfold Hid hasSeq; simp [h1, h2]
              rw [h1] at c0
              clear h1
              go_wp2
              go_round
              case rel => exact ⟨m + 1, by omega, by go_num, by rw [Hid, hT1.out, hi.out]; rfl⟩
              case measure => simp [intOf]; omega
          · have hi : Hid (hasSeq s p = false) := by unfold Hid hasSeq; simp [h1]
            go_wp2
            go_round
            case rel => exact ⟨m + 1, by omega, by go_num, by rw [Hid, hT1.out, hi.out]; rfl⟩
            case measure => simp [intOf]; omega
        · obtain rfl : m = ps.length := by omega
          go_wp2
          go_round
          case rel => exact ⟨k + 1, by omega, by go_num, by rw [Hid, hT.out, List.drop_of_length_le (Nat.le_refl _)]; rfl⟩
          case measure => simp [intOf]; omega
    · obtain rfl : k = f.length := by omega
      go_wp2
      go_ret
      exact ⟨ret_bool (by rw [hT.out, List.drop_of_length_le (Nat.le_refl _)]; rfl), rfl⟩
theorem spec_l3Next (f : List Bk) (A : Option Addr) (c : Nat) (w : World) (hl : f.length < 1000000000000) (hp : ∀ b ∈ f, b.pages.length < 1000000000000) (hn : ∀ b ∈ f, most b < 1000000000000) (hF : Fl w A f) :
    Calls Tryz.prog 54 #[.slice A f.length c] w fun e w' => e = .returned (.int .i64 (next f)) ∧ Below w.heap.size w w' := by
  have HP := Lib.hid hp
  have HN := Lib.hid hn
  have hT : Hid (topSeq f = (f.drop 0).foldl (fun n b => max n (most b)) 0) := rfl
  clear hp hn
  go_enter Tryz.func54, Tryz.ntmps54
  go_wp2
  go_loopw [3, 4] (fun q i wr => ∃ (k : Nat) (m : Int), k ≤ f.length ∧ i = .int .i64 k ∧ q = .int .i64 m ∧ 0 ≤ m ∧ m < 1000000000000 ∧ Below w.heap.size w wr ∧ Hid (topSeq f = (f.drop k).foldl (fun n b => max n (most b)) m)) (fun _ i _ => f.length - (intOf i).toNat)
  case atStart => exact ⟨0, 0, by omega, rfl, rfl, by omega, by omega, Below.refl _ _, hT⟩
  case round =>
    clear hT
    obtain ⟨k, m, hk, rfl, rfl, hm0, hm1, hb, hT⟩ := hrel
    by_cases hlt : k < f.length
    · obtain ⟨B, hB⟩ := get_some hlt
      obtain ⟨hs, hBk⟩ := hF.below hb (Nat.le_refl _)
      obtain ⟨g, o, rfl⟩ := hBk.addr (by rintro rfl; simp at hlt)
      obtain ⟨⟨Ap, cp⟩, _, z0, z1, _, _, hR, _⟩ := hBk.at_ hB
      have hd := Lib.hid (drop_cons hB)
      have hpl := HP.out B (List.mem_of_getElem? hB)
      have hnl := HN.out B (List.mem_of_getElem? hB)
      have hk1 : (k : Int) < f.length := by omega
      clear hB
      go_wp2_with fail
      refine (spec_l3Most B Ap cp _ hpl hR).mono ?_
      rintro e w1 ⟨rfl, hb1⟩
      have hB1 := hb.trans (hb1.mono hb.size)
      have hT1 : Hid (topSeq f = (f.drop (k + 1)).foldl (fun n b => max n (most b)) (max m (most B))) := by rw [Hid, hT.out, hd.out]; rfl
      clear hT hd
      generalize most B = x at *
      go_wp2
      go_roundw
      case rel => exact ⟨k + 1, max m x, by omega, by go_num, by congr 1; split <;> omega, by omega, by omega, hB1, hT1⟩
      case measure => simp [intOf]; omega
    · obtain rfl : k = f.length := by omega
      go_wp2
      go_ret
      exact ⟨ret_int (by unfold next; rw [hT.out, List.drop_of_length_le (Nat.le_refl _)]; rfl), hb⟩
theorem Row.rc {w : World} {b o : Nat} {x : Rc} (h : Row w (some ⟨b, o, none⟩) x.vs) :
    w.cell? ⟨b, o, none⟩ = some (.int .i64 x.kind) ∧ w.cell? ⟨b, o + 1, none⟩ = some (.int .i64 x.seq) ∧ w.cell? ⟨b, o + 2, none⟩ = some (.int .i64 x.addr) ∧ w.cell? ⟨b, o + 3, none⟩ = some (.int .i64 x.val) := by
  obtain ⟨b', o', he, hc⟩ := h (by simp [Rc.vs])
  cases he
  exact ⟨(hc 0 _ rfl).1, (hc 1 _ rfl).1, (hc 2 _ rfl).1, (hc 3 _ rfl).1⟩
theorem Row.rcf {w : World} {b o : Nat} {x : Rc} (h : Row w (some ⟨b, o, none⟩) x.vs) :
    w.frozen? ⟨b, o, none⟩ = false ∧ w.frozen? ⟨b, o + 1, none⟩ = false ∧ w.frozen? ⟨b, o + 2, none⟩ = false ∧ w.frozen? ⟨b, o + 3, none⟩ = false := by
  obtain ⟨b', o', he, hc⟩ := h (by simp [Rc.vs])
  cases he
  exact ⟨(hc 0 _ rfl).2, (hc 1 _ rfl).2, (hc 2 _ rfl).2, (hc 3 _ rfl).2⟩
theorem wrote_rec {w : World} {b o : Nat} {x : Rc} (h : Row w (some ⟨b, o, none⟩) x.vs) (y : Rc) :
    Wrote w ((((w.setCell ⟨b, o, none⟩ (.int .i64 y.kind)).setCell ⟨b, o + 1, none⟩ (.int .i64 y.seq)).setCell ⟨b, o + 2, none⟩ (.int .i64 y.addr)).setCell ⟨b, o + 3, none⟩ (.int .i64 y.val)) b o y.vs := by
  refine wrote_setRow b y.vs o w fun j hj => ?_
  obtain ⟨c0, c1, c2, c3⟩ := h.rc
  match j, hj with
  | 0, _ => exact ⟨_, c0⟩
  | 1, _ => exact ⟨_, c1⟩
  | 2, _ => exact ⟨_, c2⟩
  | 3, _ => exact ⟨_, c3⟩
theorem Wrote.rec_ {w w' : World} {b o : Nat} {x y : Rc} (hw : Wrote w w' b o y.vs) (h : Row w (some ⟨b, o, none⟩) x.vs) : Row w' (some ⟨b, o, none⟩) y.vs := fun _ => by
  obtain ⟨b', o', he, hc⟩ := h (by simp [Rc.vs])
  cases he
  refine ⟨b, o, rfl, fun j u hj => ⟨hw.new_ j u hj, (hw.frozen _).trans ?_⟩⟩
  have hl : j < x.vs.length := (List.getElem?_eq_some_iff.1 hj).1
  exact (hc j _ (List.getElem?_eq_getElem hl)).2
theorem spec_l3Last (f : List Bk) (addr : Int) (A : Option Addr) (c : Nat) (w : World) (hl : f.length < 1000000000000) (hp : ∀ b ∈ f, b.pages.length < 1000000000000) (hF : Fl w A f) :
    Calls Tryz.prog 57 #[.slice A f.length c, .int .i64 addr] w fun e w' => e = .returned (.tuple #[.agg #[.int .i64 (last f addr).kind, .int .i64 (last f addr).seq, .int .i64 (last f addr).addr, .int .i64 (last f addr).val], .bool (decide (0 < (last f addr).seq))]) ∧ Below w.heap.size w w' := by
  have HP := Lib.hid hp
  have hT : Hid (last f addr = (f.drop 0).foldl (fun o b => lastPs addr o b.pages) rc0) := rfl
  clear hp
  go_enter Tryz.func57, Tryz.ntmps57
  go_wp2
  go_loopw [7] (fun i wr => ∃ (k : Nat) (x : Rc), k ≤ f.length ∧ i = .int .i64 k ∧ Below w.heap.size w wr ∧ w.heap.size + 1 < wr.heap.size ∧ Row wr (some ⟨w.heap.size + 1, 0, none⟩) x.vs ∧ Row wr (some ⟨w.heap.size, 0, none⟩) rc0.vs ∧ Hid (last f addr = (f.drop k).foldl (fun o b => lastPs addr o b.pages) x)) (fun i _ => f.length - (intOf i).toNat)
  case atStart =>
    refine ⟨0, rc0, by omega, rfl, by (repeat (first | (with_reducible exact Below.refl _ _) | (with_reducible assumption) | (refine Below.setCell ?_ (by first | omega | exact hB.size | exact hb.size | (have h := hB.size; simp; omega) | (have h := hb.size; simp; omega) | (simp; omega) | simp) _) | (refine Below.alloc ?_ (by first | omega | exact hB.size | exact hb.size | (have h := hB.size; simp; omega) | (have h := hb.size; simp; omega) | (simp; omega) | simp) _) | (refine Below.drew ?_))), by simp, ?_, ?_, hT⟩
    · have := Row.new (w.alloc (.cells #[.int .i64 0, .int .i64 0, .int .i64 0, .int .i64 0] 64)) #[.int .i64 0, .int .i64 0, .int .i64 0, .int .i64 0] 64
      simp only [World.size_alloc] at this
      exact this
    · exact (Row.new w #[.int .i64 0, .int .i64 0, .int .i64 0, .int .i64 0] 64).alloc _
  case round =>
    clear hT
    obtain ⟨k, x, hk, rfl, hb, hsz, hx, hz, hT⟩ := hrel
    by_cases hlt : k < f.length
    · obtain ⟨B, hB⟩ := get_some hlt
      have hF1 := hF.below hb (Nat.le_refl _)
      obtain ⟨hs, hBk⟩ := hF1
      obtain ⟨g, o, rfl⟩ := hBk.addr (by rintro rfl; simp at hlt)
      obtain ⟨⟨Ap, cp⟩, _, z0, _, _, _, hR, _⟩ := hBk.at_ hB
      have hd := Lib.hid (drop_cons hB)
      have hpl := HP.out B (List.mem_of_getElem? hB)
      have hk1 : (k : Int) < f.length := by omega
      have HB := Lib.hid hB
      obtain ⟨ps, n⟩ := B
      dsimp only at *
      have hT0 : Hid (last f addr = (f.drop (k + 1)).foldl (fun o b => lastPs addr o b.pages) (lastPs addr x (ps.drop 0))) := by rw [Hid, hT.out, hd.out]; rfl
      clear hB hT hd
      go_wp2
      go_loopw [8] (fun j wr => ∃ (m : Nat) (x : Rc), m ≤ ps.length ∧ j = .int .i64 m ∧ Below w.heap.size w wr ∧ w.heap.size + 1 < wr.heap.size ∧ Row wr (some ⟨w.heap.size + 1, 0, none⟩) x.vs ∧ Row wr (some ⟨w.heap.size, 0, none⟩) rc0.vs ∧ Hid (last f addr = (f.drop (k + 1)).foldl (fun o b => lastPs addr o b.pages) (lastPs addr x (ps.drop m)))) (fun j _ => ps.length - (intOf j).toNat)
      case atStart => exact ⟨0, x, by omega, rfl, hb, hsz, hx, hz, hT0⟩
      case round =>
        clear hT0 z0 hR hBk hx hz hb hsz
        obtain ⟨m, x, hm, rfl, hb, hsz, hx, hz, hT⟩ := hrel
        obtain ⟨hs, hBk⟩ := hF.below hb (Nat.le_refl _)
        obtain ⟨⟨Ap, cp⟩, _, z0, _, _, _, hR, _⟩ := hBk.at_ HB.out
        dsimp only at z0 hR
        by_cases hltm : m < ps.length
        · obtain ⟨p, hq⟩ := get_some hltm
          obtain ⟨pb, po, rfl⟩ := hR.addr (pgs_ne (by rintro rfl; simp at hltm))
          obtain ⟨c0, c1, c2, c3, c4⟩ := hR.pg hq
          obtain ⟨o0, o1, o2, o3⟩ := hx.rc
          obtain ⟨r0, r1, r2, r3⟩ := hx.rcf
          have hd := Lib.hid (drop_cons hq)
          have hm1 : (m : Int) < ps.length := by omega
          have hT1 : Hid (last f addr = (f.drop (k + 1)).foldl (fun o b => lastPs addr o b.pages) (lastPs addr (lastStep addr x p) (ps.drop (m + 1)))) := by rw [Hid, hT.out, hd.out]; rfl
          have hx1 := hx.alloc (.cells #[.int .i64 p.state, .int .i64 p.rc.kind, .int .i64 p.rc.seq, .int .i64 p.rc.addr, .int .i64 p.rc.val] 71)
          have hz1 := hz.alloc (.cells #[.int .i64 p.state, .int .i64 p.rc.kind, .int .i64 p.rc.seq, .int .i64 p.rc.addr, .int .i64 p.rc.val] 71)
          clear hq hT hd
          by_cases h1 : p.state = 1
          · by_cases h2 : p.rc.addr = addr
            · by_cases h3 : x.seq < p.rc.seq
              · have hi : Hid (lastStep addr x p = p.rc) := by unfold Hid lastStep; rw [if_pos ⟨h1, h2, h3⟩]
                subst h2
                have hW := wrote_rec hx p.rc
                have hx2 := (hW.rec_ hx).alloc (.cells #[.int .i64 1, .int .i64 p.rc.kind, .int .i64 p.rc.seq, .int .i64 p.rc.addr, .int .i64 p.rc.val] 71)
                have hz2 := (hW.far hz (by rw [blk_some]; omega)).alloc (.cells #[.int .i64 1, .int .i64 p.rc.kind, .int .i64 p.rc.seq, .int .i64 p.rc.addr, .int .i64 p.rc.val] 71)
                have hs2 := hW.size
                simp only [Nat.zero_add] at hx2 hz2 o1 o2 o3 r1 r2 r3 hs2
                rw [h1] at c0
                clear h1 hx1 hz1 hW
                go_wp2
                go_roundw
                case rel => exact ⟨m + 1, p.rc, by omega, by go_num, by (repeat (first | (with_reducible exact Below.refl _ _) | (with_reducible assumption) | (refine Below.setCell ?_ (by first | omega | exact hB.size | exact hb.size | (have h := hB.size; simp; omega) | (have h := hb.size; simp; omega) | (simp; omega) | simp) _) | (refine Below.alloc ?_ (by first | omega | exact hB.size | exact hb.size | (have h := hB.size; simp; omega) | (have h := hb.size; simp; omega) | (simp; omega) | simp) _) | (refine Below.drew ?_))), by simp; omega, hx2, hz2, by have h := hT1; rw [hi.out] at h; exact h⟩
                case measure => simp [intOf]; omega
              · have hi : Hid (lastStep addr x p = x) := by unfold Hid lastStep; rw [if_neg (fun h => h3 h.2.2)]
                simp only [Nat.zero_add] at o1 o2 o3
                subst h2
                rw [h1] at c0 hx1 hz1
                clear h1
                go_wp2
                go_roundw
                case rel => exact ⟨m + 1, x, by omega, by go_num, by (repeat (first | (with_reducible exact Below.refl _ _) | (with_reducible assumption) | (refine Below.setCell ?_ (by first | omega | exact hB.size | exact hb.size | (have h := hB.size; simp; omega) | (have h := hb.size; simp; omega) | (simp; omega) | simp) _) | (refine Below.alloc ?_ (by first | omega | exact hB.size | exact hb.size | (have h := hB.size; simp; omega) | (have h := hb.size; simp; omega) | (simp; omega) | simp) _) | (refine Below.drew ?_))), by simp; omega, hx1, hz1, by have h := hT1; rw [hi.out] at h; exact h⟩
                case measure => simp [intOf]; omega
            · have hi : Hid (lastStep addr x p = x) := by unfold Hid lastStep; rw [if_neg (fun h => h2 h.2.1)]
              rw [h1] at c0 hx1 hz1
              clear h1
              go_wp2
              go_roundw
              case rel => exact ⟨m + 1, x, by omega, by go_num, by (repeat (first | (with_reducible exact Below.refl _ _) | (with_reducible assumption) | (refine Below.setCell ?_ (by first | omega | exact hB.size | exact hb.size | (have h := hB.size; simp; omega) | (have h := hb.size; simp; omega) | (simp; omega) | simp) _) | (refine Below.alloc ?_ (by first | omega | exact hB.size | exact hb.size | (have h := hB.size; simp; omega) | (have h := hb.size; simp; omega) | (simp; omega) | simp) _) | (refine Below.drew ?_))), by simp; omega, hx1, hz1, by have h := hT1; rw [hi.out] at h; exact h⟩
              case measure => simp [intOf]; omega
          · have hi : Hid (lastStep addr x p = x) := by unfold Hid lastStep; rw [if_neg (fun h => h1 h.1)]
            go_wp2
            go_roundw
            case rel => exact ⟨m + 1, x, by omega, by go_num, by (repeat (first | (with_reducible exact Below.refl _ _) | (with_reducible assumption) | (refine Below.setCell ?_ (by first | omega | exact hB.size | exact hb.size | (have h := hB.size; simp; omega) | (have h := hb.size; simp; omega) | (simp; omega) | simp) _) | (refine Below.alloc ?_ (by first | omega | exact hB.size | exact hb.size | (have h := hB.size; simp; omega) | (have h := hb.size; simp; omega) | (simp; omega) | simp) _) | (refine Below.drew ?_))), by simp; omega, hx1, hz1, by have h := hT1; rw [hi.out] at h; exact h⟩
            case measure => simp [intOf]; omega
        · obtain rfl : m = ps.length := by omega
          go_wp2
          go_roundw
          case rel => exact ⟨k + 1, x, by omega, by go_num, hb, hsz, hx, hz, by rw [Hid, hT.out, List.drop_of_length_le (Nat.le_refl _)]; rfl⟩
          case measure => simp [intOf]; omega
    · obtain rfl : k = f.length := by omega
      have hfin : Hid (last f addr = x) := by rw [Hid, hT.out, List.drop_of_length_le (Nat.le_refl _)]; rfl
      obtain ⟨o0, o1, o2, o3⟩ := hx.rc
      obtain ⟨q0, q1, q2, q3⟩ := hz.rc
      obtain ⟨r0, r1, r2, r3⟩ := hz.rcf
      simp only [Nat.zero_add] at o1 o2 o3 r1 r2 r3 q1 q2 q3
      go_wp2
      go_region
      go_wp2
      refine bodyPost_ret (v := .tuple #[.agg #[.int .i64 x.kind, .int .i64 x.seq, .int .i64 x.addr, .int .i64 x.val], .bool (decide (0 < x.seq))]) (by simp [results, Tryz.results57, go_sem, q0, q1, q2, q3]) rfl ⟨by rw [hfin.out], by (repeat (first | (with_reducible exact Below.refl _ _) | (with_reducible assumption) | (refine Below.setCell ?_ (by first | omega | exact hB.size | exact hb.size | (have h := hB.size; simp; omega) | (have h := hb.size; simp; omega) | (simp; omega) | simp) _) | (refine Below.alloc ?_ (by first | omega | exact hB.size | exact hb.size | (have h := hB.size; simp; omega) | (have h := hb.size; simp; omega) | (simp; omega) | simp) _) | (refine Below.drew ?_)))⟩
theorem spec_l3Live (f : List Bk) (p : Pg) (A : Option Addr) (c : Nat) (w : World) (hl : f.length < 1000000000000) (hp : ∀ b ∈ f, b.pages.length < 1000000000000) (hF : Fl w A f) :
    Calls Tryz.prog 77 #[.slice A f.length c, .agg #[.int .i64 p.state, .int .i64 p.rc.kind, .int .i64 p.rc.seq, .int .i64 p.rc.addr, .int .i64 p.rc.val]] w fun e w' => e = .returned (.bool (live f p)) ∧ Below w.heap.size w w' := by
  by_cases h1 : p.state = 1
  · have hfin : Hid (live f p = decide (last f p.rc.addr = p.rc)) := by unfold Hid live; simp [h1]
    rw [h1]
    clear h1
    go_enter Tryz.func77, Tryz.ntmps77
    go_wp2_with fail
    refine (spec_l3Last f p.rc.addr A c _ hl hp (hF.alloc _)).mono ?_
    rintro e w1 ⟨rfl, hb⟩
    have hB : Below w.heap.size w w1 := Below.trans (by (repeat (first | (with_reducible exact Below.refl _ _) | (with_reducible assumption) | (refine Below.setCell ?_ (by first | omega | exact hB.size | exact hb.size | (have h := hB.size; simp; omega) | (have h := hb.size; simp; omega) | (simp; omega) | simp) _) | (refine Below.alloc ?_ (by first | omega | exact hB.size | exact hb.size | (have h := hB.size; simp; omega) | (have h := hb.size; simp; omega) | (simp; omega) | simp) _) | (refine Below.drew ?_)))) (hb.mono (by simp))
    obtain ⟨hc, hf⟩ := bcell hb
    have hz : w.heap.size < w1.heap.size := by have := hb.size; simp at this; omega
    have hle : Hid (decide (last f p.rc.addr = p.rc) = (decide ((last f p.rc.addr).kind = p.rc.kind) && (decide ((last f p.rc.addr).seq = p.rc.seq) && (decide ((last f p.rc.addr).addr = p.rc.addr) && decide ((last f p.rc.addr).val = p.rc.val))))) := by
      unfold Hid
      generalize last f p.rc.addr = x
      obtain ⟨a, b, c, d⟩ := x
      obtain ⟨st, e, g, h, i⟩ := p
      simp [Bool.and_assoc]
    generalize last f p.rc.addr = x at *
    clear hb
    go_wp2
    all_goals go_ret
    all_goals exact ⟨ret_bool (by rw [hfin.out, hle.out]; simp [*]), by (repeat (first | (with_reducible exact Below.refl _ _) | (with_reducible assumption) | (refine Below.setCell ?_ (by first | omega | exact hB.size | exact hb.size | (have h := hB.size; simp; omega) | (have h := hb.size; simp; omega) | (simp; omega) | simp) _) | (refine Below.alloc ?_ (by first | omega | exact hB.size | exact hb.size | (have h := hB.size; simp; omega) | (have h := hb.size; simp; omega) | (simp; omega) | simp) _) | (refine Below.drew ?_)))⟩
  · have hfin : Hid (live f p = false) := by unfold Hid live; simp [h1]
    go_enter Tryz.func77, Tryz.ntmps77
    go_wp2
    go_ret
    exact ⟨ret_bool hfin.out.symm, by (repeat (first | (with_reducible exact Below.refl _ _) | (with_reducible assumption) | (refine Below.setCell ?_ (by first | omega | exact hB.size | exact hb.size | (have h := hB.size; simp; omega) | (have h := hb.size; simp; omega) | (simp; omega) | simp) _) | (refine Below.alloc ?_ (by first | omega | exact hB.size | exact hb.size | (have h := hB.size; simp; omega) | (have h := hb.size; simp; omega) | (simp; omega) | simp) _) | (refine Below.drew ?_)))⟩
end Go.Proofs.YtohkoogmbfaceaaGreat
namespace Go.Proofs.YtohkoogmbfaceaaGreat
set_option linter.unusedVariables false
set_option linter.unusedSimpArgs false
open Go.RowKit Go.Maps
set_option maxHeartbeats 400000
set_option maxRecDepth 100000 in
set_option maxHeartbeats 8000000 in
theorem spec_l3Old (f : List Bk) (A : Option Addr) (c : Nat) (w : World) (hl : f.length < 1000000000000) (h0 : 0 < f.length) (hp : ∀ b ∈ f, b.pages.length < 1000000000000) (hF : Fl w A f) :
    Calls Tryz.prog 76 #[.slice A f.length c] w fun e w' => e = .returned (.int .i64 (old f)) ∧ old f < f.length ∧ Below w.heap.size w w' := by
  have HP := Lib.hid hp
  have hT : Hid (old f = oldGo f 1 0 (f.drop 1)) := rfl
  clear hp
  go_enter Tryz.func76, Tryz.ntmps76
  go_wp2
  go_loopw [3, 4] (fun q i wr => ∃ (k m : Nat), k ≤ f.length ∧ 1 ≤ k ∧ i = .int .i64 k ∧ q = .int .i64 m ∧ m < f.length ∧ Below w.heap.size w wr ∧ Hid (old f = oldGo f k m (f.drop k))) (fun _ i _ => f.length - (intOf i).toNat)
  case atStart => exact ⟨1, 0, by omega, by omega, rfl, rfl, h0, Below.refl _ _, hT⟩
  case round =>
    clear hT
    obtain ⟨k, m, hk, hk0, rfl, rfl, hm, hb, hT⟩ := hrel
    by_cases hlt : k < f.length
    · obtain ⟨B, hB⟩ := get_some hlt
      obtain ⟨C, hC⟩ := get_some hm
      have hFk := hF.below hb (Nat.le_refl _)
      obtain ⟨hs, hBk⟩ := hFk
      obtain ⟨g, o, rfl⟩ := hBk.addr (by rintro rfl; simp at hlt)
      obtain ⟨⟨Ap, cp⟩, hx1, z0, z1, _, _, hR, _⟩ := hBk.at_ hB
      obtain ⟨⟨Aq, cq⟩, hx2, y0, y1, _, _, hR2, _⟩ := hBk.at_ hC
      have hd := Lib.hid (drop_cons hB)
      have hpl := HP.out B (List.mem_of_getElem? hB)
      have hpl2 := HP.out C (List.mem_of_getElem? hC)
      have hk1 : (k : Int) < f.length := by omega
      have hm1 : (m : Int) < f.length := by omega
      have hgd : f.getD m zbk = C := by rw [List.getD_eq_getElem?_getD, hC]; rfl
      have hT1 : Hid (old f = if most B < most C then oldGo f (k + 1) k (f.drop (k + 1)) else oldGo f (k + 1) m (f.drop (k + 1))) := by rw [Hid, hT.out, hd.out, oldGo, hgd]
      have HB := Lib.hid hB
      have HC := Lib.hid hC
      clear hB hC hT hd hgd hx1 hx2
      go_wp2
      by_cases hxy : most B < most C
      · have hT2 : Hid (old f = oldGo f (k + 1) k (f.drop (k + 1))) := by rw [Hid, hT1.out, if_pos hxy]
        clear hT1
        go_region_with (first | (go_at_call 74; (first | with_reducible refine (spec_l3Most B Ap cp _ hpl (by first | with_reducible exact hR | with_reducible exact hR.drew)).mono ?_ | with_reducible refine (spec_l3Most C Aq cq _ hpl2 (by first | with_reducible exact hR2 | with_reducible exact hR2.drew)).mono ?_); rintro e w1 ⟨rfl, hb1⟩; (first | (with_reducible replace hb1 := undrew hb1) | skip); replace hb := hb.trans (hb1.mono hb.size); have kk := (bcell hb1).1; replace z0 := (kk _ _ (lt_of_cell z0)).trans z0; replace z1 := (kk _ _ (lt_of_cell z1)).trans z1; replace y0 := (kk _ _ (lt_of_cell y0)).trans y0; replace y1 := (kk _ _ (lt_of_cell y1)).trans y1; replace hR := hR.below hb1 (Nat.le_refl _); replace hR2 := hR2.below hb1 (Nat.le_refl _); clear hb1 kk))
        all_goals
          go_wp2
          go_roundw
          (case rel => exact ⟨k + 1, k, by omega, by omega, by go_num, rfl, hlt, hb, hT2⟩)
          (case measure => simp [intOf]; omega)
      · have hT2 : Hid (old f = oldGo f (k + 1) m (f.drop (k + 1))) := by rw [Hid, hT1.out, if_neg hxy]
        clear hT1
        go_region_with (first | (go_at_call 74; (first | with_reducible refine (spec_l3Most B Ap cp _ hpl (by first | with_reducible exact hR | with_reducible exact hR.drew)).mono ?_ | with_reducible refine (spec_l3Most C Aq cq _ hpl2 (by first | with_reducible exact hR2 | with_reducible exact hR2.drew)).mono ?_); rintro e w1 ⟨rfl, hb1⟩; (first | (with_reducible replace hb1 := undrew hb1) | skip); replace hb := hb.trans (hb1.mono hb.size); have kk := (bcell hb1).1; replace z0 := (kk _ _ (lt_of_cell z0)).trans z0; replace z1 := (kk _ _ (lt_of_cell z1)).trans z1; replace y0 := (kk _ _ (lt_of_cell y0)).trans y0; replace y1 := (kk _ _ (lt_of_cell y1)).trans y1; replace hR := hR.below hb1 (Nat.le_refl _); replace hR2 := hR2.below hb1 (Nat.le_refl _); clear hb1 kk))
        all_goals
          go_wp2
          go_roundw
          (case rel => exact ⟨k + 1, m, by omega, by omega, by go_num, rfl, hm, hb, hT2⟩)
          (case measure => simp [intOf]; omega)
    · obtain rfl : k = f.length := by omega
      go_wp2
      go_ret
      have hfin : old f = m := by rw [hT.out, List.drop_of_length_le (Nat.le_refl _)]; rfl
      exact ⟨ret_int (by rw [hfin]), by rw [hfin]; exact hm, hb⟩
end Go.Proofs.YtohkoogmbfaceaaGreat
namespace Go.Proofs.YtohkoogmbfaceaaGreat
set_option linter.unusedVariables false
set_option linter.unusedSimpArgs false
open Go.RowKit Go.Maps
set_option maxHeartbeats 400000
theorem below_drewN {B : Nat} {w w' : World} (h : Below B w w') (n : Nat) : Below B w (w'.drewN n) := ⟨h.os, h.tape, h.output, h.size, h.block⟩
theorem Bks.worn {w : World} {g o i : Nat} {f : List Bk} {hs : List (Option Addr × Nat)} {b : Bk} (h : Bks w (some ⟨g, o, none⟩) f hs) (hi : f[i]? = some b) : w.cell? ⟨g, o + i * 2 + 1, none⟩ = some (.int .i64 b.worn) := by
  obtain ⟨_, _, _, z1, _⟩ := h.at_ hi; exact z1
set_option maxRecDepth 100000 in
set_option maxHeartbeats 4000000 in
theorem spec_l3Open (f : List Bk) (A : Option Addr) (c : Nat) (w : World) (hl : f.length < 1000000000000) (hp : ∀ b ∈ f, b.pages.length < 1000000000000) (hF : Fl w A f) :
    Calls Tryz.prog 75 #[.slice A f.length c] w fun e w' => e = .returned (.tuple #[.int .i64 (openB f).1, .bool (openB f).2]) ∧ 0 ≤ (openB f).1 ∧ (f ≠ [] → (openB f).1 < f.length) ∧ Below w.heap.size w w' := by
  have HP := Lib.hid hp
  have hT : Hid (openB f = openGo f 0 (-1) (f.drop 0)) := rfl
  clear hp
  go_enter Tryz.func75, Tryz.ntmps75
  go_wp2
  go_loopw [4, 5] (fun q i wr => ∃ (k : Nat) (m : Int), k ≤ f.length ∧ i = .int .i64 k ∧ q = .int .i64 m ∧ -1 ≤ m ∧ m < f.length ∧ Below w.heap.size w wr ∧ Hid (openB f = openGo f k m (f.drop k))) (fun _ i _ => f.length - (intOf i).toNat)
  case atStart => exact ⟨0, -1, by omega, rfl, rfl, by omega, by omega, Below.refl _ _, hT⟩
  case round =>
    clear hT
    obtain ⟨k, m, hk, rfl, rfl, hm0, hm1, hb, hT⟩ := hrel
    by_cases hlt : k < f.length
    · obtain ⟨B, hB⟩ := get_some hlt
      have hFk := hF.below hb (Nat.le_refl _)
      obtain ⟨hs, hBk⟩ := hFk
      obtain ⟨g, o, rfl⟩ := hBk.addr (by rintro rfl; simp at hlt)
      obtain ⟨⟨Ap, cp⟩, _, z0, z1, _, _, hR, _⟩ := hBk.at_ hB
      have hd := Lib.hid (drop_cons hB)
      have hpl := HP.out B (List.mem_of_getElem? hB)
      have hk1 : (k : Int) < f.length := by omega
      have hT1 : Hid (openB f = if 0 < clean B ∧ clean B < 4 then ((k : Int), true) else if 0 < clean B ∧ (m < 0 ∨ B.worn < (f.getD m.toNat zbk).worn) then openGo f (k + 1) k (f.drop (k + 1)) else openGo f (k + 1) m (f.drop (k + 1))) := by rw [Hid, hT.out, hd.out, openGo]
      have HB := Lib.hid hB
      clear hB hT hd
      go_wp2_with fail
      refine (spec_l2Clean B Ap cp _ hpl hR).mono ?_
      rintro e w1 ⟨rfl, hb1⟩
      have hb2 := hb.trans (hb1.mono hb.size)
      have hBk1 := hBk.below hb1 (Nat.le_refl _)
      replace z1 := hBk1.worn HB.out
      have hmx : ∀ m' : Nat, m = m' → w1.cell? ⟨g, o + m' * 2 + 1, none⟩ = some (.int .i64 (f.getD m.toNat zbk).worn) := fun m' e => by
        subst e
        obtain ⟨C, hC⟩ := get_some (l := f) (k := m') (by omega)
        have := hBk1.worn hC
        rw [this, Int.toNat_natCast, List.getD_eq_getElem?_getD, hC]; rfl
      clear hb hb1 z0 hR
      generalize clean B = x at *
      by_cases h1 : 0 < x
      · have h1' : (0 : Int) < x := by omega
        by_cases h2 : x < 4
        · have hfin : Hid (openB f = ((k : Int), true)) := by rw [Hid, hT1.out, if_pos ⟨h1, h2⟩]
          have h2' : (x : Int) < 4 := by omega
          clear hT1
          go_wp2
          go_ret2
          rw [hfin.out]
          exact ⟨rfl, by simp, fun _ => hk1, hb2⟩
        · have h2' : (4 : Int) ≤ x := by omega
          by_cases h3 : m < 0
          · have hT2 : Hid (openB f = openGo f (k + 1) k (f.drop (k + 1))) := by rw [Hid, hT1.out, if_neg (fun h => h2 h.2), if_pos ⟨h1, .inl h3⟩]
            clear hT1
            go_wp2
            go_quiet (fail)
            go_wp2
            go_roundw
            case rel => exact ⟨k + 1, k, by omega, by go_num, rfl, by omega, hk1, below_drewN hb2 _, hT2⟩
            case measure => simp [intOf]; omega
          · obtain ⟨m', rfl⟩ := Int.eq_ofNat_of_zero_le (show 0 ≤ m by omega)
            have hmc := hmx m' rfl
            have hT1' : Hid (openB f = if B.worn < (f.getD m' zbk).worn then openGo f (k + 1) k (f.drop (k + 1)) else openGo f (k + 1) m' (f.drop (k + 1))) := by
              rw [Hid, hT1.out, if_neg (fun h => h2 h.2), Int.toNat_natCast]
              by_cases h4 : B.worn < (f.getD m' zbk).worn
              · rw [if_pos ⟨h1, .inr h4⟩, if_pos h4]
              · rw [if_neg (by intro h; rcases h.2 with h | h; omega; exact h4 h), if_neg h4]
            rw [Int.toNat_natCast] at hmc
            clear hT1 hmx
            generalize (f.getD m' zbk).worn = y at *
            by_cases h4 : B.worn < y
            · have hT2 : Hid (openB f = openGo f (k + 1) k (f.drop (k + 1))) := by rw [Hid, hT1'.out, if_pos h4]
              clear hT1'
              go_wp2
              go_quiet (fail)
              go_wp2
              go_roundw
              case rel => exact ⟨k + 1, k, by omega, by go_num, rfl, by omega, hk1, below_drewN hb2 _, hT2⟩
              case measure => simp [intOf]; omega
            · have hT2 : Hid (openB f = openGo f (k + 1) m' (f.drop (k + 1))) := by rw [Hid, hT1'.out, if_neg h4]
              clear hT1'
              go_wp2
              go_quiet (fail)
              go_wp2
              go_roundw
              case rel => exact ⟨k + 1, m', by omega, by go_num, rfl, by omega, hm1, below_drewN hb2 _, hT2⟩
              case measure => simp [intOf]; omega
      · obtain rfl : x = 0 := by omega
        have hT2 : Hid (openB f = openGo f (k + 1) m (f.drop (k + 1))) := by rw [Hid, hT1.out, if_neg (fun h => h1 h.1), if_neg (fun h => h1 h.1)]
        clear hT1
        go_wp2
        go_quiet (fail)
        go_wp2
        go_roundw
        case rel => exact ⟨k + 1, m, by omega, by go_num, rfl, by omega, hm1, below_drewN hb2 _, hT2⟩
        case measure => simp [intOf]; omega
    · obtain rfl : k = f.length := by omega
      have hfin : Hid (openB f = (max m 0, decide (0 ≤ m))) := by rw [Hid, hT.out, List.drop_of_length_le (Nat.le_refl _)]; rfl
      by_cases hm : m < 0
      · have hm' : ¬ 0 ≤ m := by omega
        go_wp2
        go_ret2
        rw [hfin.out]
        refine ⟨?_, by simp; omega, fun hne => ?_, hb⟩
        · simp [hm']; omega
        · have : 0 < f.length := List.length_pos_iff.2 hne
          simp; omega
      · have hm' : 0 ≤ m := by omega
        go_wp2
        all_goals go_ret2
        all_goals rw [hfin.out]
        all_goals refine ⟨?_, by simp; omega, fun hne => ?_, hb⟩
        all_goals first
          | (have : 0 < f.length := List.length_pos_iff.2 hne; simp; omega)
          | (simp [hm']; omega)
end Go.Proofs.YtohkoogmbfaceaaGreat
namespace Go.Proofs.YtohkoogmbfaceaaGreat
set_option linter.unusedVariables false
set_option linter.unusedSimpArgs false
open Go.RowKit
end Go.Proofs.YtohkoogmbfaceaaGreat
namespace Go.Proofs.YtohkoogmbfaceaaGreat
set_option linter.unusedVariables false
set_option linter.unusedSimpArgs false
open Go.RowKit Go.Maps
set_option maxHeartbeats 400000
theorem spec_RecOk (r : Rc) (w : World) : Calls Tryz.prog 56 #[.agg #[.int .i64 r.kind, .int .i64 r.seq, .int .i64 r.addr, .int .i64 r.val]] w fun e w' => e = .returned (.bool (recOk r)) ∧ Below w.heap.size w w' := by
  obtain ⟨k, s, a, v⟩ := r
  dsimp only
  have hB : Below w.heap.size w (w.alloc (.cells #[.int .i64 k, .int .i64 s, .int .i64 a, .int .i64 v] 64)) := (Below.refl _ _).alloc (Nat.le_refl _) _
  have hq : Hid (∀ x, x = (decide (1 ≤ k) && decide (k ≤ 2) && (decide (1 ≤ s) && decide (s ≤ 600)) && (decide (1 ≤ a) && decide (a ≤ 6)) && (decide (0 ≤ v) && decide (v ≤ 9))) → recOk ⟨k, s, a, v⟩ = x) := by
    intro x hx
    rw [hx]
    unfold recOk kindB addrB valB
    rw [Bool.eq_iff_iff]
    simp
    omega
  go_enter Tryz.func56, Tryz.ntmps56
  go_wp2_with (go_at_call 37; refine (spec_l6In _ _ _ _).mono ?_; rintro e w' ⟨rfl, rfl⟩)
  all_goals (go_ret; exact ⟨ret_bool (hq.out _ (by simp [*])).symm, hB⟩)
/-- a row of marks: is the number among seen? -/
def Marks (w : World) (g : Nat) (seen : List Int) : Prop := ∀ j : Nat, j < 601 → w.cell? ⟨g, j, none⟩ = some (.bool (decide ((j : Int) ∈ seen))) ∧ w.frozen? ⟨g, j, none⟩ = false
theorem Marks.below {w w' : World} {g B : Nat} {seen : List Int} (h : Marks w g seen) (hb : Below B w w') (hg : g < B) : Marks w' g seen := fun j hj =>
  ⟨(hb.cell (p := ⟨g, j, none⟩) hg).trans (h j hj).1, (hb.frozen (p := ⟨g, j, none⟩) hg).trans (h j hj).2⟩
theorem Marks.put {w : World} {g n : Nat} {seen : List Int} (h : Marks w g seen) (hn : n < 601) : Marks (w.setCell ⟨g, n, none⟩ (.bool true)) g ((n : Int) :: seen) := fun j hj => by
  refine ⟨?_, (World.frozen?_setCell _ _ _ _).trans (h j hj).2⟩
  by_cases e : j = n
  · subst e
    rw [World.cell?_setCell_same w _ _ (h j hj).1]; simp
  · rw [World.cell?_setCell_other w _ _ _ (fun e' => e (by injection e' with _ e2 _; exact e2.symm)), (h j hj).1]
    simp [show ¬ (j : Int) = n by omega]
theorem Marks.same {w : World} {g n : Nat} {seen : List Int} (h : Marks w g seen) (hn : n < 601) (hs : ¬ (n : Int) ∈ seen) : Marks (w.setCell ⟨g, n, none⟩ (.bool false)) g seen := fun j hj => by
  refine ⟨?_, (World.frozen?_setCell _ _ _ _).trans (h j hj).2⟩
  by_cases e : j = n
  · subst e
    rw [World.cell?_setCell_same w _ _ (h j hj).1]; simp [hs]
  · rw [World.cell?_setCell_other w _ _ _ (fun e' => e (by injection e' with _ e2 _; exact e2.symm)), (h j hj).1]
end Go.Proofs.YtohkoogmbfaceaaGreat
namespace Go.Proofs.YtohkoogmbfaceaaGreat
set_option linter.unusedVariables false
set_option linter.unusedSimpArgs false
open Go.RowKit Go.Maps
set_option maxHeartbeats 400000
end Go.Proofs.YtohkoogmbfaceaaGreat
namespace Go.Proofs.YtohkoogmbfaceaaGreat
set_option linter.unusedVariables false
set_option linter.unusedSimpArgs false
open Go.RowKit Go.Shelf
attribute [local go_sem] Oper.semAt_some
set_option maxHeartbeats 400000
abbrev PgAt := Nat × Nat × Pg
def tagFrom (i : Nat) : Nat → List Pg → List PgAt
  | _, [] => []
  | j, p :: ps => (i, j, p) :: tagFrom i (j + 1) ps
def allFrom : Nat → List Bk → List PgAt
  | _, [] => []
  | i, b :: f => tagFrom i 0 b.pages ++ allFrom (i + 1) f
def encP (x : PgAt) : Array Value := #[.agg #[.int .i64 (x.1 : Int), .int .i64 (x.2.1 : Int)], .agg #[.int .i64 x.2.2.state, .int .i64 x.2.2.rc.kind, .int .i64 x.2.2.rc.seq, .int .i64 x.2.2.rc.addr, .int .i64 x.2.2.rc.val]]
theorem all_next {f : List Bk} {k : Nat} {B : Bk} (h : f[k]? = some B) : allFrom k (f.drop k) = tagFrom k 0 (B.pages.drop 0) ++ allFrom (k + 1) (f.drop (k + 1)) := by rw [drop_cons h]; rfl
theorem tag_next {ps : List Pg} {i m : Nat} {p : Pg} (h : ps[m]? = some p) : tagFrom i m (ps.drop m) = (i, m, p) :: tagFrom i (m + 1) (ps.drop (m + 1)) := by rw [drop_cons h]; rfl
set_option maxRecDepth 100000 in
set_option maxHeartbeats 4000000 in
theorem eachPage1_in (F : Fence) (n : Nat) (hF : F.fn 81) (hro : F.round = none) (hn : 1 ≤ n) (l Bs n₀ g o c : Nat) (f : List Bk) (hs : List (Option Addr × Nat)) (J Jx : List PgAt → World → Prop)
    (W : World) (hn₀ : n₀ ≤ W.heap.size) (hJ : AbidesFrom W.heap.size J)
    (hY : ∀ pre (x : PgAt) W1, J pre W1 → pre.length < (allFrom 0 f).length → x.1 < f.length ∧ x ∈ allFrom 0 f → YieldAt F (n - 1) Tryz.prog l (encP x) W1 fun e W' =>
      (e = .returned (.bool true) ∧ J (pre ++ [x]) W' ∧ Below n₀ W1 W') ∨ (e = .returned (.bool false) ∧ Jx (pre ++ [x]) W'))
    (hBs : W.cell? ⟨Bs, 0, none⟩ = some (.slice (some ⟨g, o, none⟩) f.length c)) (hl : f.length < 1000000000000) (hp : ∀ b ∈ f, b.pages.length < 1000000000000)
    (hBk : Bks W (some ⟨g, o, none⟩) f hs) (hlow : ∀ b, fblk (some ⟨g, o, none⟩) hs b → b < n₀) (h0 : J [] W) :
    CallsIn F n Tryz.prog 81 #[.func (.yield l) #[] #[], .pointer (some ⟨Bs, 0, none⟩)] W fun e W' => (∃ v, e = .returned v) ∧
      ((∃ ys, ys = allFrom 0 f ∧ J ys W') ∨ (∃ pre, pre <+: allFrom 0 f ∧ Jx pre W')) := by
  have HP := Lib.hid hp
  have HLOW := Lib.hid hlow
  have hT0 : Hid (allFrom 0 f = [] ++ allFrom 0 (f.drop 0)) := rfl
  have hJa : ∀ pre (V : World) (o : Obj), J pre V → J pre (V.alloc o) := fun pre V o h => hJ pre V _ none h (World.grownBy_alloc V o none) (fun r e => by cases e)
  have HJA := Lib.hid hJa
  clear hp hlow hJa hJ
  refine callsIn_of_wp Tryz.func81 rfl hF ?_ hro
  simp only [Tryz.ntmps81, List.size_toArray, List.length_cons, List.length_nil, Nat.reduceAdd, Nat.reduceSub, Array.replicate_succ, Array.replicate_zero, List.push_toArray, List.append_toArray, List.nil_append, List.cons_append]
  gi_wp2
  gi_loopw [9] (fun i wr => ∃ (k : Nat) (pre : List PgAt), k ≤ f.length ∧ i = .int .i64 k ∧ J pre wr ∧ Below n₀ W wr ∧ Hid (allFrom 0 f = pre ++ allFrom k (f.drop k)))
    (fun i _ => f.length - (intOf i).toNat)
  case atStart => exact ⟨0, [], Nat.zero_le _, rfl, h0, Below.refl _ _, hT0⟩
  case round =>
    clear hT0
    obtain ⟨k, pre, hk, rfl, hJs, hB, hT⟩ := hrel
    by_cases hlt : k < f.length
    · obtain ⟨B, hb⟩ := get_some hlt
      have hBkr : Bks wr (some ⟨g, o, none⟩) f hs := hBk.keep fun q hq hl => hB.block q (HLOW.out q (by
        rcases hq with hq | ⟨x, hx, hq⟩
        · exact .inl hq
        · obtain ⟨i, hi⟩ := List.getElem?_of_mem hx
          exact .inr ⟨i, x, hi, hq⟩))
      obtain ⟨⟨Ap, cp⟩, _, z0, z1, _, _, _, _⟩ := hBkr.at_ hb
      have hT1 : Hid (allFrom 0 f = pre ++ (tagFrom k 0 (B.pages.drop 0) ++ allFrom (k + 1) (f.drop (k + 1)))) := by rw [Hid, hT.out, all_next hb]
      have hpl := HP.out B (List.mem_of_getElem? hb)
      have hk1 : (k : Int) < f.length := by omega
      have HB := Lib.hid hb
      have hJb := HJA.out pre wr (.cells #[.slice Ap B.pages.length cp, .int .i64 B.worn] 59) hJs
      have hBb : Below n₀ W (wr.alloc (.cells #[.slice Ap B.pages.length cp, .int .i64 B.worn] 59)) := hB.alloc (by have := hB.size; omega) _
      dsimp only at *
      clear hb hBkr hT
      gi_wp2
      gi_loopw [17] (fun j wl => ∃ (m : Nat) (pre2 : List PgAt), m ≤ B.pages.length ∧ j = .int .i64 m ∧ J pre2 wl ∧ Below n₀ W wl ∧ Hid (allFrom 0 f = pre2 ++ (tagFrom k m (B.pages.drop m) ++ allFrom (k + 1) (f.drop (k + 1)))))
        (fun j _ => B.pages.length - (intOf j).toNat)
      case atStart => exact ⟨0, pre, Nat.zero_le _, rfl, hJb, hBb, hT1⟩
      case round =>
        clear hT1 hJb hBb z0 z1
        obtain ⟨m, pre2, hm, rfl, hJm, hBm, hTm⟩ := hrel
        by_cases hltm : m < B.pages.length
        · obtain ⟨p, hq⟩ := get_some hltm
          have hBkm := hBk.keep (fun q hq hl => hBm.block q (HLOW.out q (by
            rcases hq with hq | ⟨x, hx, hq⟩
            · exact .inl hq
            · obtain ⟨i, hi⟩ := List.getElem?_of_mem hx
              exact .inr ⟨i, x, hi, hq⟩)))
          have hRm := (hBkm.pg k B _ HB.out (by assumption)).1
          obtain ⟨pb, po, rfl⟩ := hRm.addr (pgs_ne (by intro e; rw [e] at hltm; simp at hltm))
          obtain ⟨c0, c1, c2, c3, c4⟩ := hRm.pg hq
          have hm1 : (m : Int) < B.pages.length := by omega
          have hJp := HJA.out pre2 _ (.cells #[.int .i64 p.state, .int .i64 p.rc.kind, .int .i64 p.rc.seq, .int .i64 p.rc.addr, .int .i64 p.rc.val] 71) hJm
          have hBp := hBm.alloc (by have := hBm.size; omega) (.cells #[.int .i64 p.state, .int .i64 p.rc.kind, .int .i64 p.rc.seq, .int .i64 p.rc.addr, .int .i64 p.rc.val] 71)
          have hT2 : Hid (allFrom 0 f = (pre2 ++ [(k, m, p)]) ++ (tagFrom k (m + 1) (B.pages.drop (m + 1)) ++ allFrom (k + 1) (f.drop (k + 1)))) := by
            rw [Hid, hTm.out, tag_next hq, List.append_assoc]; rfl
          have hlen : pre2.length < (allFrom 0 f).length := by rw [hT2.out, List.length_append, List.length_append]; simp; omega
          obtain ⟨fn, tmps, assign, body, hy, hR⟩ := hY pre2 (k, m, p) _ hJp hlen ⟨hlt, by rw [hT2.out]; simp⟩
          dsimp only [encP] at hy
          clear hq hlen hTm hJm
          gi_wp2
          refine hR.mono ?_
          rintro e W3 (⟨rfl, hJ3, hk3⟩ | ⟨rfl, hJx3⟩)
          · gi_wp2
            go_roundw
            case rel => exact ⟨m + 1, pre2 ++ [(k, m, p)], by omega, by simp, hJ3, hBp.trans hk3, hT2⟩
            case measure => simp [intOf]; omega
          · gi_wp2
            refine bodyPost_ret (results_none rfl _ _ _) rfl ?_
            exact ⟨⟨_, rfl⟩, .inr ⟨_, by rw [hT2.out]; exact List.prefix_append _ _, hJx3⟩⟩
        · obtain rfl : m = B.pages.length := by omega
          have hT3 : Hid (allFrom 0 f = pre2 ++ allFrom (k + 1) (f.drop (k + 1))) := by rw [Hid, hTm.out, List.drop_of_length_le (Nat.le_refl _)]; rfl
          gi_wp2
          go_roundw
          case rel => exact ⟨k + 1, pre2, by omega, by simp, hJm, hBm, hT3⟩
          case measure => simp [intOf]; omega
    · obtain rfl : k = f.length := by omega
      have hend : pre = allFrom 0 f := by rw [hT.out, List.drop_of_length_le (Nat.le_refl _)]; simp [allFrom]
      clear hT
      gi_wp2
      go_end0
      exact ⟨⟨_, rfl⟩, .inl ⟨_, hend, hJs⟩⟩
end Go.Proofs.YtohkoogmbfaceaaGreat
namespace Go.Proofs.YtohkoogmbfaceaaGreat
set_option linter.unusedVariables false
set_option linter.unusedSimpArgs false
open Go.RowKit Go.Maps
set_option maxHeartbeats 400000
theorem Tryz.info3_block : (Tryz.prog.info? 59).map (fun i => (i.zero, i.size, i.bytes)) = some (some (.agg #[.slice none 0 0, .int .i64 0]), 2, 32) := by kernel_rfl
/-- a flash that is being built by append: k blocks so far -/
structure Bld (B : Nat) (w : World) (g k c : Nat) (f : List Bk) (ks : List (Option Addr × Nat)) : Prop where
  own : w.ownsRow B 59 2 (.slice (some ⟨g, 0, none⟩) k c) k (hdrs f ks)
  bks : Bks w (some ⟨g, 0, none⟩) f ks
  apt : Apt B w.heap.size (some ⟨g, 0, none⟩) ks
theorem Apt.snoc {lo hi hi' g g' : Nat} {hs : List (Option Addr × Nat)} {x : Option Addr × Nat} (h : Apt lo hi (some ⟨g, 0, none⟩) hs) (hg : g' = g ∨ hi ≤ g') (hg' : g' < hi') (hx : ∀ b, blk x.1 b → hi ≤ b ∧ b < hi' ∧ b ≠ g') (hlh : lo ≤ hi) (hh : hi ≤ hi') : Apt lo hi' (some ⟨g', 0, none⟩) (hs ++ [x]) := by
  have hgl := h.top g (by rw [blk_some])
  have key : ∀ (j : Nat) (y : Option Addr × Nat), (hs ++ [x])[j]? = some y → (j = hs.length ∧ y = x) ∨ (j < hs.length ∧ hs[j]? = some y) := fun j y hy => by
    by_cases hj : j < hs.length
    · rw [List.getElem?_append_left hj] at hy; exact .inr ⟨hj, hy⟩
    · rw [List.getElem?_append_right (by omega)] at hy
      have hl := (List.getElem?_eq_some_iff.1 hy).1
      simp at hl
      have e : j = hs.length := by omega
      subst e
      simp at hy
      exact .inl ⟨rfl, hy.symm⟩
  refine ⟨fun b hb => by rw [blk_some] at hb; omega, fun j y b hy hb => ?_, fun j m y z b hy hz hb hc => ?_⟩
  · rcases key j y hy with ⟨_, ey⟩ | ⟨_, hy'⟩
    · have := hx b (ey ▸ hb); exact ⟨by omega, by omega, by rw [blk_some]; omega⟩
    · have := h.in_ j y b hy' hb
      rw [blk_some] at this
      exact ⟨by omega, by omega, by rw [blk_some]; omega⟩
  · rcases key j y hy with ⟨ej, ey⟩ | ⟨_, hy'⟩ <;> rcases key m z hz with ⟨em, ez⟩ | ⟨_, hz'⟩
    · omega
    · have h1 := hx b (ey ▸ hb); have h2 := h.in_ m z b hz' hc; omega
    · have h1 := hx b (ez ▸ hc); have h2 := h.in_ j y b hy' hb; omega
    · exact h.two j m y z b hy' hz' hb hc
theorem Bks.snoc {w w' : World} {g g' : Nat} {f : List Bk} {hs : List (Option Addr × Nat)} {b : Bk} {x : Option Addr × Nat} (h : Bks w (some ⟨g, 0, none⟩) f hs) (hk : ∀ (i : Nat) (y : Option Addr × Nat), hs[i]? = some y → ∀ c, blk y.1 c → c < w.heap.size → w'.heap[c]? = w.heap[c]?)
    (hr : Row w' (some ⟨g', 0, none⟩) (hdrs f hs ++ [.slice x.1 b.pages.length x.2, .int .i64 b.worn])) (hp : Row w' x.1 (pgs b.pages)) (hc : b.pages.length ≤ x.2) : Bks w' (some ⟨g', 0, none⟩) (f ++ [b]) (hs ++ [x]) := by
  refine ⟨by simp [h.len], by rw [hdrs_append f [b] hs [x] h.len]; exact hr, fun i c y hc' hy => ?_⟩
  have hl := h.len
  by_cases hi : i < f.length
  · rw [List.getElem?_append_left hi] at hc'
    rw [List.getElem?_append_left (by omega)] at hy
    obtain ⟨h1, h2⟩ := h.pg i c y hc' hy
    exact ⟨h1.keep (hk i y hy), h2⟩
  · rw [List.getElem?_append_right (by omega)] at hc'
    rw [List.getElem?_append_right (by omega)] at hy
    have hl' := (List.getElem?_eq_some_iff.1 hc').1
    simp at hl'
    have e : i = f.length := by omega
    subst e
    simp at hc'
    rw [hl] at hy
    simp at hy
    subst hc'; subst hy
    exact ⟨hp, hc⟩
theorem ownsRow_cap {w : World} {base : Nat} {e : TypeId} {size n c g : Nat} {xs : List Value} (h : w.ownsRow base e size (.slice (some ⟨g, 0, none⟩) n c) n xs) : n ≤ c := by
  obtain ⟨_, ⟨hv, _⟩ | ⟨g', cap, cur, hv, _, _, hc, _⟩⟩ := h
  · cases hv
  · cases hv; exact hc
/-- a block more: its pages lie at g1, the headers at g2 -/
theorem Bld.step {B : Nat} {wr w1 w2 : World} {g k c g1 c1 g2 c2 n : Nat} {f : List Bk} {ks : List (Option Addr × Nat)} {b : Bk} {o : Obj} (h : Bld B wr g k c f ks) (hn : b.pages.length = n) (hB : B ≤ wr.heap.size)
    (h1 : Row w1 (some ⟨g1, 0, none⟩) (pgs b.pages)) (hc1 : n ≤ c1) (hg1 : wr.heap.size ≤ g1) (hl1 : g1 < w1.heap.size) (hb1 : Below wr.heap.size wr w1)
    (hown : w2.ownsRow B 59 2 (.slice (some ⟨g2, 0, none⟩) (k + 1) c2) (k + 1) (hdrs f ks ++ [.slice (some ⟨g1, 0, none⟩) n c1, .int .i64 b.worn])) (hgr : (w1.alloc o).grownBy w2 (some g)) (hg2 : some g = some g2 ∨ g2 = w1.heap.size + 1) (hl2 : g2 < w2.heap.size) :
    Bld B w2 g2 (k + 1) c2 (f ++ [b]) (ks ++ [(some ⟨g1, 0, none⟩, c1)]) := by
  have hgl := h.apt.top g (by rw [blk_some])
  have hs1 := hb1.size
  have hs2 := hgr.size
  rw [World.size_alloc] at hs2
  have hkeep : ∀ i, i < w1.heap.size → i ≠ g → w2.heap[i]? = w1.heap[i]? := fun i hi hne => (hgr.block i (by rw [World.size_alloc]; omega) (by intro e; cases e; exact hne rfl)).trans (Below.heap_alloc w1 o i hi)
  refine ⟨by rw [hdrs_append _ _ _ _ h.bks.len]; simp only [hdrs, hn]; exact hown, ?_, ?_⟩
  · refine h.bks.snoc (fun i y hy d hd hl => ?_) (by rw [hn]; exact Row.of_own hown) (h1.keep fun d hd _ => hkeep d ?_ ?_) (by rw [hn]; exact hc1)
    · have h3 := h.apt.in_ i y d hy hd
      rw [blk_some] at h3
      rw [hkeep d (by omega) (by omega)]
      exact hb1.block d hl
    · rw [blk_some] at hd; omega
    · rw [blk_some] at hd; omega
  · refine h.apt.snoc (hi' := w2.heap.size) ?_ hl2 (fun d hd => ?_) hB (by omega)
    · rcases hg2 with e | e
      · cases e; exact .inl rfl
      · exact .inr (by omega)
    · rw [blk_some] at hd
      refine ⟨by omega, by omega, ?_⟩
      rcases hg2 with e | e
      · cases e; omega
      · omega
end Go.Proofs.YtohkoogmbfaceaaGreat
namespace Go.Proofs.YtohkoogmbfaceaaGreat
set_option linter.unusedVariables false
set_option linter.unusedSimpArgs false
open Go.RowKit Go.Maps
set_option maxHeartbeats 400000
theorem make_pages (w : World) : (Instr.makeSlice 57 (.int .i64 4) (.int .i64 4)).run Tryz.prog w = .ok (.slice (some ⟨w.heap.size, 0, none⟩) 4 4) (w.alloc (.cells #[.int .i64 0, .int .i64 0, .int .i64 0, .int .i64 0, .int .i64 0, .int .i64 0, .int .i64 0, .int .i64 0, .int .i64 0, .int .i64 0, .int .i64 0, .int .i64 0, .int .i64 0, .int .i64 0, .int .i64 0, .int .i64 0, .int .i64 0, .int .i64 0, .int .i64 0, .int .i64 0] 71)) := by kernel_rfl
set_option maxRecDepth 100000 in
set_option maxHeartbeats 1600000 in
theorem spec_FlashNew (w : World) : Calls Tryz.prog 25 #[] w fun e w' =>
    ∃ g c', e = .returned (.slice (some ⟨g, 0, none⟩) 4 c') ∧ 4 ≤ c' ∧ OFl w' w.heap.size w'.heap.size (some ⟨g, 0, none⟩) flashNew ∧ Below w.heap.size w w' := by
  obtain ⟨ib, hib, hbz0, hbz1, hbz2⟩ := info_parts Tryz.info3_block
  have hmk := make_pages
  have hb0 : Bld w.heap.size (w.alloc (.cells #[] 59)) w.heap.size 0 0 (flashNew.take 0) [] :=
    ⟨World.ownsRow_lit w #[] 0 (Nat.le_refl _) (by unfold maxLen; omega) rfl, ⟨rfl, Row.nil _ _, fun _ _ _ h _ => absurd h (by simp)⟩, ⟨fun b hb => by rw [blk_some] at hb; simp; omega, fun _ _ _ h _ => absurd h (by simp), fun _ _ _ _ _ h _ _ _ => absurd h (by simp)⟩⟩
  have hB0 : Below w.heap.size w (w.alloc (.cells #[] 59)) := (Below.refl _ _).alloc (Nat.le_refl _) _
  go_enter Tryz.func25, Tryz.ntmps25
  go_wp2
  go_loopw [1, 2] (fun v i wr => ∃ (k g c : Nat) (ks : List (Option Addr × Nat)), k ≤ 4 ∧ i = .int .i64 k ∧ v = .slice (some ⟨g, 0, none⟩) k c ∧ Below w.heap.size w wr ∧ Bld w.heap.size wr g k c (flashNew.take k) ks ∧ k ≤ c) (fun _ i _ => 4 - (intOf i).toNat)
  case atStart => exact ⟨0, _, 0, [], by omega, rfl, rfl, hB0, hb0, Nat.le_refl _⟩
  case round =>
    clear hb0 hB0
    obtain ⟨k, g, c, ks, hk, rfl, rfl, hb, hBd, hkc⟩ := hrel
    by_cases hlt : k < 4
    · have hown := hBd.own
      have hsz := hb.size
      have hgl := hBd.apt.top g (by rw [blk_some])
      have hR1 : Row (wr.alloc (.cells #[.int .i64 0, .int .i64 0, .int .i64 0, .int .i64 0, .int .i64 0, .int .i64 0, .int .i64 0, .int .i64 0, .int .i64 0, .int .i64 0, .int .i64 0, .int .i64 0, .int .i64 0, .int .i64 0, .int .i64 0, .int .i64 0, .int .i64 0, .int .i64 0, .int .i64 0, .int .i64 0] 71)) (some ⟨wr.heap.size, 0, none⟩) (pgs (List.replicate 4 pg0)) := Row.new wr #[.int .i64 0, .int .i64 0, .int .i64 0, .int .i64 0, .int .i64 0, .int .i64 0, .int .i64 0, .int .i64 0, .int .i64 0, .int .i64 0, .int .i64 0, .int .i64 0, .int .i64 0, .int .i64 0, .int .i64 0, .int .i64 0, .int .i64 0, .int .i64 0, .int .i64 0, .int .i64 0] _
      obtain ⟨W, hW⟩ : ∃ W, wr.alloc (.cells #[.int .i64 0, .int .i64 0, .int .i64 0, .int .i64 0, .int .i64 0, .int .i64 0, .int .i64 0, .int .i64 0, .int .i64 0, .int .i64 0, .int .i64 0, .int .i64 0, .int .i64 0, .int .i64 0, .int .i64 0, .int .i64 0, .int .i64 0, .int .i64 0, .int .i64 0, .int .i64 0] 71) = W := ⟨_, rfl⟩
      have hownW := hown.alloc (.cells #[.int .i64 0, .int .i64 0, .int .i64 0, .int .i64 0, .int .i64 0, .int .i64 0, .int .i64 0, .int .i64 0, .int .i64 0, .int .i64 0, .int .i64 0, .int .i64 0, .int .i64 0, .int .i64 0, .int .i64 0, .int .i64 0, .int .i64 0, .int .i64 0, .int .i64 0, .int .i64 0] 71)
      have hbW : Below wr.heap.size wr W := hW ▸ (Below.refl _ _).alloc (Nat.le_refl _) _
      have hsW : W.heap.size = wr.heap.size + 1 := by rw [← hW]; simp
      have hmkW := hmk wr
      rw [hW] at hR1 hownW hmkW
      have HSW := Lib.hid hsW
      have HK := Lib.hid hmk
      clear hmk hW hsW
      go_wp2_with (at_builtin; refine wpList_append_lies _ rfl (.tmp 8) (.tmp 11) _ rfl w.heap.size 59 ib _ 2 32 Tryz.underlying24 hib hbz0 hbz1 hbz2 rfl (by omega) (.slice (some ⟨g, 0, none⟩) k c) k (hdrs (flashNew.take k) ks) rfl (hownW.alloc (.cells #[.slice (some ⟨wr.heap.size, 0, none⟩) 4 4, .int .i64 0] 59)) ⟨W.heap.size, 0, none⟩ 1 1 [.slice (some ⟨wr.heap.size, 0, none⟩) 4 4, .int .i64 0] rfl rfl (World.news_of_block (cs := #[.slice (some ⟨wr.heap.size, 0, none⟩) 4 4, .int .i64 0]) (t := 59) (fr := (0, 0)) (heap_alloc_new W _)) (by simp [Value.oneCell']) (by omega) (by unfold maxLen; omega) (by omega) (by have := HSW.out; simp; omega) (W.heap.size + 1) (by simp) ?_; intro g2 c2 w2 hown2 hgrow2 hat2 hlt2)
      have hstep := hBd.step (b := newBlock) (c1 := 4) (n := 4) (by rfl) hsz hR1 (Nat.le_refl _) (Nat.le_refl _) (by have := HSW.out; omega) hbW hown2 hgrow2 hat2 hlt2
      rw [show flashNew.take k ++ [newBlock] = flashNew.take (k + 1) from by rw [List.take_add_one, show flashNew[k]? = some newBlock by rw [flashNew, List.getElem?_replicate, if_pos hlt]]; rfl] at hstep
      have hcap := ownsRow_cap hown2
      have hB2 := hb.trans (((hbW.mono hsz).alloc (by have := HSW.out; omega) _).grown hgrow2 (by have := HSW.out; simp; omega) (by intro q e; cases e; exact hgl.1))
      go_roundw
      case rel => exact ⟨k + 1, g2, c2, _, by omega, by go_num, rfl, hB2, hstep, hcap⟩
      case measure => simp [intOf]; omega
    · obtain rfl : k = 4 := by omega
      go_wp2
      go_ret
      exact ⟨g, c, rfl, hkc, ⟨ks, hBd.bks, hBd.apt⟩, hb⟩

/-- a store to a header's second cell: the wear -/
theorem wrote_worn {w : World} {g o i : Nat} {f : List Bk} {hs : List (Option Addr × Nat)} {b : Bk} {x : Option Addr × Nat} (h : Bks w (some ⟨g, o, none⟩) f hs) (hi : f[i]? = some b) (hx : hs[i]? = some x) (n : Int) :
    Wrote w (w.setCell ⟨g, o + i * 2 + 1, none⟩ (.int .i64 n)) g (o + i * 2) [.slice x.1 b.pages.length x.2, .int .i64 n] := by
  obtain ⟨y, hy, c0, c1, _⟩ := h.at_ hi
  rw [hx] at hy; cases hy
  exact (wrote_one c1 (.int .i64 n)).less c0
def wipeR (f : List Bk) (i : Nat) (torn : Bool) : List Bk × Bool := if 200 ≤ (f.getD i zbk).worn then (f, false) else (wipe f i torn, true)
set_option maxRecDepth 100000 in
theorem spec_l2Wipe' (f : List Bk) (i lo hi g o c : Nat) (torn : Bool) (w : World) (hl : f.length = 4) (hp : ∀ b ∈ f, b.pages.length = 4 ∧ 0 ≤ b.worn ∧ b.worn ≤ 200) (hi4 : i < 4) (hs : List (Option Addr × Nat)) (hBk : Bks w (some ⟨g, o, none⟩) f hs) (hApt : Apt lo hi (some ⟨g, o, none⟩) hs) :
    Calls Tryz.prog 52 #[.slice (some ⟨g, o, none⟩) 4 c, .int .i64 i, .bool torn] w fun e w' =>
      e = .returned (.tuple #[.slice (some ⟨g, o, none⟩) 4 c, .bool (wipeR f i torn).2]) ∧ Bks w' (some ⟨g, o, none⟩) (wipeR f i torn).1 hs ∧ Agr (fblk (some ⟨g, o, none⟩) hs) w w' := by
  obtain ⟨B, hB⟩ := get_some (l := f) (k := i) (by omega)
  have hBm := hp B (List.mem_of_getElem? hB)
  have hBget : f.getD i zbk = B := by rw [List.getD_eq_getElem?_getD, hB]; rfl
  obtain ⟨x, hx, z0, z1, z2, z3, hR, _⟩ := hBk.at_ hB
  obtain ⟨hw1, hw2, hw3⟩ := hBm
  have hg := hApt.top g (by rw [blk_some])
  have hi4' : (i : Int) < 4 := by omega
  have hi0 : (0 : Int) ≤ i := by omega
  by_cases h200 : 200 ≤ B.worn
  · have hfin : Hid (wipeR f i torn = (f, false)) := by unfold Hid wipeR; rw [hBget, if_pos h200]
    clear hl hp hBget hw1
    go_enter Tryz.func52, Tryz.ntmps52
    go_wp2
    go_ret2
    rw [hfin.out]
    exact ⟨rfl, hBk, Agr.refl _ _⟩
  · have hfin : Hid (wipeR f i torn = (wipe f i torn, true)) := by unfold Hid wipeR; rw [hBget, if_neg h200]
    have hlt : B.worn < 200 := by omega
    obtain ⟨⟨pb, po, hpa⟩, hpb⟩ : (∃ pb po, x.1 = some ⟨pb, po, none⟩) ∧ True := ⟨hR.addr (pgs_ne (by intro e; rw [e] at hw1; simp at hw1)), trivial⟩
    obtain ⟨A, cp⟩ := x
    dsimp only at hpa
    subst hpa
    dsimp only at *
    have hW := wrote_worn hBk hB hx (B.worn + 1)
    have hBk1 := hBk.setHdr hApt hB hx hW
    have hpin := hApt.in_ i _ pb hx (by rw [blk_some])
    rw [blk_some] at hpin
    have hW1 := Lib.hid hW.agr
    have HX := Lib.hid hx
    have HL := Lib.hid hl
    have HB := Lib.hid hB
    have HG := Lib.hid hBget
    have HW1 := Lib.hid hw1
    rw [hw1] at z0
    have hz0' := hW.new_ 0 _ rfl
    rw [Nat.add_zero, hw1] at hz0'
    clear hl hp hB hBget hx hw1 hpb hW
    go_enter Tryz.func52, Tryz.ntmps52
    cases torn
    · go_wp2
      go_loopw [9] (fun q wr => ∃ (k : Nat), k ≤ 4 ∧ q = .int .i64 k ∧ Bks wr (some ⟨g, o, none⟩) (f.set i ⟨List.replicate k ⟨0, rc0⟩ ++ B.pages.drop k, B.worn + 1⟩) hs ∧ Agr (fblk (some ⟨g, o, none⟩) hs) w wr ∧ wr.cell? ⟨g, o + i * 2, none⟩ = some (.slice (some ⟨pb, po, none⟩) 4 cp)) (fun q _ => 4 - (intOf q).toNat)
      case atStart => exact ⟨0, by omega, rfl, hBk1, (Agr.refl _ _).trans hW1.out (fun k _ e => .inl (by rw [e, blk_some])), hz0'⟩
      case round =>
        clear hBk1 hz0'
        obtain ⟨k, hk, rfl, hBk2, hA, hz⟩ := hrel
        by_cases hltk : k < 4
        · have hk4' : (k : Int) < 4 := by omega
          have hget : (f.set i ⟨List.replicate k ⟨0, rc0⟩ ++ B.pages.drop k, B.worn + 1⟩)[i]? = some ⟨List.replicate k ⟨0, rc0⟩ ++ B.pages.drop k, B.worn + 1⟩ := by rw [List.getElem?_set_self (by have := HL.out; omega)]
          obtain ⟨hr2, _⟩ := hBk2.pg i _ _ hget HX.out
          obtain ⟨q, hq⟩ := get_some (l := List.replicate k (⟨0, rc0⟩ : Pg) ++ B.pages.drop k) (k := k) (by have := HW1.out; simp; omega)
          obtain ⟨c0, c1, c2, c3, c4⟩ := hr2.pg hq
          obtain ⟨f0, f1, f2, f3, f4⟩ := hr2.pgf hq
          have hWp := wrote_page hr2 hq ⟨0, rc0⟩
          have hBk3 := hBk2.setPage hApt hget HX.out (by have := HW1.out; simp; omega) hWp
          rw [List.set_set] at hBk3
          dsimp only at hBk3
          rw [fill_step _ _ _ (by have := HW1.out; omega)] at hBk3
          have hA3 := hA.trans hWp.agr (fun j _ e => .inr ⟨i, _, HX.out, by rw [e, blk_some]⟩)
          have hz3 := (hWp.block g (by omega))
          have HQ := Lib.hid hq
          have HGT := Lib.hid hget
          have hz4 := (World.cell?_of_block (a := ⟨g, o + i * 2, none⟩) hz3).trans hz
          simp only [rc0] at hBk3 hA3 hz4
          clear hq hget hz3 hWp
          go_wp2
          go_roundw
          case rel => exact ⟨k + 1, by omega, by go_num, hBk3, hA3, hz4⟩
          case measure => simp [intOf]; omega
        · obtain rfl : k = 4 := by omega
          go_wp2
          go_ret2
          rw [hfin.out]
          rw [show B.pages.drop 4 = [] from List.drop_of_length_le (by have := HW1.out; omega), List.append_nil] at hBk2
          exact ⟨rfl, by unfold wipe; rw [HG.out]; exact hBk2, hA⟩
    · go_wp2
      go_loopw [9] (fun q wr => ∃ (k : Nat), k ≤ 4 ∧ q = .int .i64 k ∧ Bks wr (some ⟨g, o, none⟩) (f.set i ⟨List.replicate k ⟨2, rc0⟩ ++ B.pages.drop k, B.worn + 1⟩) hs ∧ Agr (fblk (some ⟨g, o, none⟩) hs) w wr ∧ wr.cell? ⟨g, o + i * 2, none⟩ = some (.slice (some ⟨pb, po, none⟩) 4 cp)) (fun q _ => 4 - (intOf q).toNat)
      case atStart => exact ⟨0, by omega, rfl, hBk1, (Agr.refl _ _).trans hW1.out (fun k _ e => .inl (by rw [e, blk_some])), hz0'⟩
      case round =>
        clear hBk1 hz0'
        obtain ⟨k, hk, rfl, hBk2, hA, hz⟩ := hrel
        by_cases hltk : k < 4
        · have hk4' : (k : Int) < 4 := by omega
          have hget : (f.set i ⟨List.replicate k ⟨2, rc0⟩ ++ B.pages.drop k, B.worn + 1⟩)[i]? = some ⟨List.replicate k ⟨2, rc0⟩ ++ B.pages.drop k, B.worn + 1⟩ := by rw [List.getElem?_set_self (by have := HL.out; omega)]
          obtain ⟨hr2, _⟩ := hBk2.pg i _ _ hget HX.out
          obtain ⟨q, hq⟩ := get_some (l := List.replicate k (⟨2, rc0⟩ : Pg) ++ B.pages.drop k) (k := k) (by have := HW1.out; simp; omega)
          obtain ⟨c0, c1, c2, c3, c4⟩ := hr2.pg hq
          obtain ⟨f0, f1, f2, f3, f4⟩ := hr2.pgf hq
          have hWp := wrote_page hr2 hq ⟨2, rc0⟩
          have hBk3 := hBk2.setPage hApt hget HX.out (by have := HW1.out; simp; omega) hWp
          rw [List.set_set] at hBk3
          dsimp only at hBk3
          rw [fill_step _ _ _ (by have := HW1.out; omega)] at hBk3
          have hA3 := hA.trans hWp.agr (fun j _ e => .inr ⟨i, _, HX.out, by rw [e, blk_some]⟩)
          have hz3 := (hWp.block g (by omega))
          have HQ := Lib.hid hq
          have HGT := Lib.hid hget
          have hz4 := (World.cell?_of_block (a := ⟨g, o + i * 2, none⟩) hz3).trans hz
          simp only [rc0] at hBk3 hA3 hz4
          clear hq hget hz3 hWp
          go_wp2
          go_roundw
          case rel => exact ⟨k + 1, by omega, by go_num, hBk3, hA3, hz4⟩
          case measure => simp [intOf]; omega
        · obtain rfl : k = 4 := by omega
          go_wp2
          go_ret2
          rw [hfin.out]
          rw [show B.pages.drop 4 = [] from List.drop_of_length_le (by have := HW1.out; omega), List.append_nil] at hBk2
          exact ⟨rfl, by unfold wipe; rw [HG.out]; exact hBk2, hA⟩
theorem wipeR_eq {f : List Bk} {i : Nat} {torn : Bool} (hok : flashOk f = true) (hi : i < 4) : flashWipe f i torn = wipeR f i torn := by
  have hl := flashOk_len hok
  obtain ⟨B, hB⟩ := get_some (l := f) (k := i) (by omega)
  have hs := flashOk_shape hok B (List.mem_of_getElem? hB)
  have hBget : f.getD i zbk = B := by rw [List.getD_eq_getElem?_getD, hB]; rfl
  unfold flashWipe wipeR
  rw [if_neg (by rw [hok]; unfold blockB; simp; omega), Int.toNat_natCast, hBget]
  by_cases h : B.worn = 200
  · rw [if_pos h, if_pos (by omega)]
  · rw [if_neg h, if_neg (by omega)]
theorem wipeR_len (f : List Bk) (i : Nat) (torn : Bool) : (wipeR f i torn).1.length = f.length := by
  unfold wipeR wipe
  split <;> simp
end Go.Proofs.YtohkoogmbfaceaaGreat
namespace Go.Proofs.YtohkoogmbfaceaaGreat
set_option linter.unusedVariables false
set_option linter.unusedSimpArgs false
def writeR (f : List Bk) (i : Nat) (r : Rc) (torn : Bool) : List Bk × Bool :=
  if clean (f.getD i zbk) = 0 ∨ seqIn f r.seq = true then (f, false)
  else (f.set i { f.getD i zbk with pages := (f.getD i zbk).pages.set (4 - clean (f.getD i zbk)) (if torn then ⟨2, rc0⟩ else ⟨1, r⟩) }, true)
def dirty (f : List Bk) (a : Int) : Bool := decide (0 < (last f a).seq) && decide ((last f a).kind = 1)
def readV (s : St) (a : Int) : Int := if 0 < (last s.flash a).seq then (last s.flash a).val else s.disk.getD (a - 1).toNat 0
def told (f : List Bk) (p : Pg) : Bool := live f p && decide (p.rc.kind = 1)
def tellP (p : Pg) : Sp := ⟨1, p.rc.addr, p.rc.val, 0, rc0⟩
def tells (f : List Bk) (ps : List Pg) : List Sp := (ps.filter (told f)).map tellP
/-- steps that make room, the block, and whether there is any -/
def room (f : List Bk) : List Sp × Int × Bool :=
  if (openB f).2 then ([], (openB f).1, true)
  else (tells f (f.getD (old f) zbk).pages ++ [⟨2, 0, 0, old f, rc0⟩], old f, decide ((f.getD (old f) zbk).worn < 200))
def wr (f : List Bk) (kind addr val : Int) : List Sp :=
  if (room f).2.2 = false ∨ recOk ⟨kind, next f, addr, val⟩ = false then [] else (room f).1 ++ [⟨3, 0, 0, (room f).2.1, ⟨kind, next f, addr, val⟩⟩]
def flush (s : St) (a : Int) : List Sp :=
  if addrB a = false ∨ dirty s.flash a = false then [] else
  if wr s.flash 2 a (readV s a) = [] then [] else ⟨1, a, readV s a, 0, rc0⟩ :: wr s.flash 2 a (readV s a)
def fill (s : St) (a : Int) : List Sp :=
  if addrB a = false ∨ 0 < (last s.flash a).seq then [] else wr s.flash 2 a (s.disk.getD (a - 1).toNat 0)
def stepsOf (s : St) (e : Ev) : List Sp :=
  if e.kind = 1 then wr s.flash 1 e.a e.b else if e.kind = 2 then flush s e.a else if e.kind = 3 then fill s e.a else []
def doStep (s : St) (x : Sp) (torn : Bool) : St :=
  if x.kind = 1 then (if torn then s else { s with disk := s.disk.set (x.addr - 1).toNat x.val })
  else if x.kind = 2 then { s with flash := (wipeR s.flash x.block.toNat torn).1 }
  else if x.kind = 3 then { s with flash := (writeR s.flash x.block.toNat x.rc torn).1 } else s
def doAllOf (s : St) (xs : List Sp) : St := xs.foldl (fun s x => doStep s x false) s
def doTo (s : St) (xs : List Sp) (cut : Int) (torn : Bool) : St :=
  if torn = true ∧ 0 ≤ cut ∧ cut < xs.length then doStep (doAllOf s (xs.take cut.toNat)) (xs.getD cut.toNat ⟨0, 0, 0, 0, rc0⟩) true else doAllOf s (xs.take cut.toNat)
def doFlush (s : St) (a : Int) : St := doTo s (flush s a) (flush s a).length false
def doEvery (s : St) : St := [1, 2, 3, 4, 5, 6].foldl doFlush s
def doEv (s : St) (e : Ev) : St := if e.kind = 4 then doEvery s else if e.c < 0 then s else doTo s (stepsOf s e) e.c e.torn
def bkFine (b : Bk) : Prop := b.pages.length = 4 ∧ 0 ≤ b.worn ∧ b.worn ≤ 200 ∧ ∀ p ∈ b.pages, pageOk p = true
def flFine (f : List Bk) : Prop := f.length = 4 ∧ ∀ b ∈ f, bkFine b
def stFine (s : St) : Prop := flFine s.flash ∧ s.disk.length = 6 ∧ ∀ v ∈ s.disk, 0 ≤ v ∧ v ≤ 9
/-- a step that can be done -/
def spFine (x : Sp) : Prop := (x.kind = 1 → 1 ≤ x.addr ∧ x.addr ≤ 6 ∧ 0 ≤ x.val ∧ x.val ≤ 9) ∧ (x.kind = 2 ∨ x.kind = 3 → 0 ≤ x.block ∧ x.block < 4) ∧ (x.kind = 3 → recOk x.rc = true)
end Go.Proofs.YtohkoogmbfaceaaGreat
