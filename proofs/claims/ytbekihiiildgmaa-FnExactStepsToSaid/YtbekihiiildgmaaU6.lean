/- What the laws' walks share: words, plain laws, and the walks of functions, part 6. -/
import Derived.Deep.RegionHeld3
import Derived.Below
import Derived.ChangeSame
import Derived.WalkKit
import Derived.ProofKit
import Derived.Carry
import Derived.Test.YtbekihiiildgmaaProg
import Derived.Deep.Slices
import Derived.ChangeArms
import Derived.Test.YtbekihiiildgmaaU5
namespace Go.Proofs.Ytbekihiiildgmaa
set_option linter.unusedVariables false
set_option linter.unusedSimpArgs false
open Go.RowKit Go.Maps
set_option maxHeartbeats 400000
theorem OwnE.out {w : World} {base : Nat} {v : Value} {xs : List Ev} (h : OwnE w base v xs) : ∃ A c, v = .slice A xs.length c ∧ Row w A (evs xs) ∧ (∀ b, blk A b → base ≤ b ∧ b < w.heap.size) ∧ xs.length ≤ c := by
  have h' := h
  obtain ⟨hl, ⟨hv, hz⟩ | ⟨g, cap, cur, hv, hb, hh, hnc, hm, hs, ht⟩⟩ := h
  · have hxs : xs = [] := List.eq_nil_of_length_eq_zero hz
    subst hxs
    exact ⟨none, 0, hv, Row.nil _ _, (fun b hb => by cases hb), Nat.le_refl _⟩
  · refine ⟨some ⟨g, 0, none⟩, cap, hv, ?_, fun b hb' => ?_, hnc⟩
    · unfold OwnE at h'; rw [hv] at h'; exact Row.of_own h'
    · rw [blk_some] at hb'
      subst hb'
      exact ⟨hb, (Array.getElem?_eq_some_iff.1 hh).1⟩
end Go.Proofs.Ytbekihiiildgmaa
namespace Go.Proofs.Ytbekihiiildgmaa
set_option linter.unusedVariables false
set_option linter.unusedSimpArgs false
open Go.RowKit Go.Maps
set_option maxHeartbeats 400000
theorem OSt.agr {w w' : World} {lo hi : Nat} {A D : Option Addr} {f : List Bk} {xs : List Int} {S : Nat → Prop} (h : OSt w lo hi A f D xs) (ha : Agr S w w') (hS : ∀ b, lo ≤ b → b < hi → ¬ S b) : OSt w' lo hi A f D xs := h.keep fun b h1 h2 hl => ha.block b hl (hS b h1 h2)
/-- the result laid -/
theorem laid_cells {w : World} {N : Nat} {u0 u1 : Value} (q0 : w.cell? ⟨N, 0, none⟩ = some u0) (q1 : w.cell? ⟨N, 1, none⟩ = some u1) (v0 v1 : Value) : Wrote w ((w.setCell ⟨N, 0, none⟩ v0).setCell ⟨N, 1, none⟩ v1) N 0 [v0, v1] :=
  wrote_setRow N [v0, v1] 0 w (fun j hj => by
    match j, hj with
    | 0, _ => exact ⟨_, q0⟩
    | 1, _ => exact ⟨_, q1⟩)
end Go.Proofs.Ytbekihiiildgmaa
namespace Go.Proofs.Ytbekihiiildgmaa
set_option linter.unusedVariables false
set_option linter.unusedSimpArgs false
open Go.RowKit Go.Maps
set_option maxHeartbeats 400000
/-- a store in a box, and what it holds -/
structure Held (W : World) (bx : Nat) (A D : Option Addr) (n c m d : Nat) (s : St) : Prop where
  fl : Fl W A s.flash
  dk : Row W D (ints s.disk)
  x0 : W.cell? ⟨bx, 0, none⟩ = some (.slice A n c)
  x1 : W.cell? ⟨bx, 1, none⟩ = some (.slice D m d)
  hn : n = s.flash.length
  hm : m = s.disk.length
theorem Held.below {W X : World} {bx n c m d B : Nat} {A D : Option Addr} {s : St} (h : Held W bx A D n c m d s) (hb : Below B W X) (hB : W.heap.size ≤ B) : Held X bx A D n c m d s :=
  ⟨h.fl.below hb hB, h.dk.below hb hB, (hb.cell (p := ⟨bx, 0, none⟩) (Nat.lt_of_lt_of_le (lt_of_cell h.x0) hB)).trans h.x0, (hb.cell (p := ⟨bx, 1, none⟩) (Nat.lt_of_lt_of_le (lt_of_cell h.x1) hB)).trans h.x1, h.hn, h.hm⟩
theorem Held.new (w : World) {A D : Option Addr} {n c m d : Nat} {s : St} (hF : Fl w A s.flash) (hD : Row w D (ints s.disk)) (hn : n = s.flash.length) (hm : m = s.disk.length) : Held (w.alloc (.cells #[.slice A n c, .slice D m d] 26)) w.heap.size A D n c m d s :=
  ⟨hF.below ((Below.refl _ _).alloc (Nat.le_refl _) _) (Nat.le_refl _), hD.alloc _, by simp, by simp, hn, hm⟩
theorem Held.drew {W : World} {bx n c m d : Nat} {A D : Option Addr} {s : St} (h : Held W bx A D n c m d s) : Held W.drew bx A D n c m d s := ⟨h.fl.drew', h.dk, h.x0, h.x1, h.hn, h.hm⟩
end Go.Proofs.Ytbekihiiildgmaa
namespace Go.Proofs.Ytbekihiiildgmaa
set_option linter.unusedVariables false
set_option linter.unusedSimpArgs false
open Go.RowKit Go.Maps
set_option maxHeartbeats 400000
/-- .. and that it was done -/
def RunP (t : St) (w : World) (e : Ending) (w' : World) : Prop :=
  ∃ A c D d, e = .returned (.tuple #[.agg #[.slice A 4 c, .slice D 6 d], .bool true]) ∧ FlAt w' w.heap.size A t.flash ∧ Row w' D (ints t.disk) ∧ (∀ b, blk D b → w.heap.size ≤ b) ∧ Below w.heap.size w w'
/-- not done: an empty store -/
def NoP (w : World) (e : Ending) (w' : World) : Prop :=
  ∃ A c D d, e = .returned (.tuple #[.agg #[.slice A 0 c, .slice D 0 d], .bool false]) ∧ Below w.heap.size w w'
theorem ToPost.run {t : St} {w w' : World} {e : Ending} (ht : Okay t) (h : ToPost (t, true) w e w') : RunP t w e w' := by
  obtain ⟨A, c, D, d, rfl, h1, h2, h3, h4⟩ := h
  exact ⟨A, c, D, d, by dsimp only; rw [flashOk_len ht.flash, ht.len], h1, h2, h3, h4⟩
theorem ToPost.no {w w' : World} {e : Ending} (h : ToPost (st0, false) w e w') : NoP w e w' := by
  obtain ⟨A, c, D, d, rfl, h1, h2, h3, h4⟩ := h
  exact ⟨A, c, D, d, rfl, h4⟩
theorem Held.no (w : World) (A D : Option Addr) (c d : Nat) : Held (w.alloc (.cells #[.slice A 0 c, .slice D 0 d] 26)) w.heap.size A D 0 c 0 d st0 :=
  Held.new w (s := st0) ⟨[], rfl, Row.nil _ _, fun i b x h => by simp [st0] at h⟩ (Row.nil _ _) rfl rfl
theorem Held.ok {w : World} {t : St} (ht : Okay t) {A D : Option Addr} (c d : Nat) (hF : Fl w A t.flash) (hD : Row w D (ints t.disk)) : Held (w.alloc (.cells #[.slice A 4 c, .slice D 6 d] 26)) w.heap.size A D 4 c 6 d t :=
  Held.new w hF hD (flashOk_len ht.flash).symm ht.len.symm
/-- a store in a box, put there anew -/
theorem Held.put {W : World} {bx n c m d n' c' m' d' : Nat} {A D A' D' : Option Addr} {s t : St} (h : Held W bx A D n c m d s) (hF : FlAt W (bx + 1) A' t.flash) (hD : Row W D' (ints t.disk)) (hd : ∀ b, blk D' b → bx + 1 ≤ b) (hn : n' = t.flash.length) (hm : m' = t.disk.length) :
    Held ((W.setCell ⟨bx, 0, none⟩ (.slice A' n' c')).setCell ⟨bx, 1, none⟩ (.slice D' m' d')) bx A' D' n' c' m' d' t := by
  have hW : Wrote W ((W.setCell ⟨bx, 0, none⟩ (.slice A' n' c')).setCell ⟨bx, 1, none⟩ (.slice D' m' d')) bx 0 [.slice A' n' c', .slice D' m' d'] := wrote_setRow bx [.slice A' n' c', .slice D' m' d'] 0 W (fun j hj => by
    match j, hj with
    | 0, _ => exact ⟨_, h.x0⟩
    | 1, _ => exact ⟨_, h.x1⟩)
  refine ⟨?_, hD.keep fun b hb hl => hW.block b (by have := hd b hb; omega), hW.new_ 0 _ rfl, hW.new_ 1 _ rfl, hn, hm⟩
  exact (hF.keep (w' := (W.setCell ⟨bx, 0, none⟩ (.slice A' n' c')).setCell ⟨bx, 1, none⟩ (.slice D' m' d')) fun b hb hl => hW.block b (by omega)).fl
theorem FlAt.mono {w : World} {lo lo' : Nat} {A : Option Addr} {f : List Bk} (h : FlAt w lo A f) (hl : lo' ≤ lo) : FlAt w lo' A f := by
  obtain ⟨hs, h1, h2⟩ := h
  exact ⟨hs, h1, fun b hb => Nat.le_trans hl (h2 b hb)⟩
end Go.Proofs.Ytbekihiiildgmaa
namespace Go.Proofs.Ytbekihiiildgmaa
set_option linter.unusedVariables false
set_option linter.unusedSimpArgs false
open Go.RowKit Go.Maps
set_option maxHeartbeats 400000
theorem Try.info3_int' : (Try.prog.info? 3).map (fun i => (i.zero, i.size, i.bytes)) = some (some (.int .i64 0), 1, 8) := by kernel_rfl
theorem ints_one' (xs : List Int) : ∀ u ∈ ints xs, u.oneCell' = true := fun u hu => by
  obtain ⟨x, _, rfl⟩ := List.mem_map.1 hu
  rfl
theorem own_below {w w' : World} {base size n : Nat} {e : TypeId} {v : Value} {xs : List Value} (h : w.ownsRow base e size v n xs) (hb : base ≤ w.heap.size) (hg : w.grownBy w' v.ownBlock) : Below base w w' :=
  ((Agr.refl (fun b => v.ownBlock = some b) w).grown hg (fun g hg => .inr hg)).below hb (fun b hb => (World.ownsRow.lt h b hb).1)
theorem OwnI.one (w : World) (base : Nat) (x : Int) (hb : base ≤ w.heap.size) : OwnI (w.alloc (.cells #[.int .i64 x] 3)) base (.slice (some ⟨w.heap.size, 0, none⟩) 1 1) [x] := World.ownsRow_lit w #[.int .i64 x] 1 hb (by unfold maxLen; omega) rfl
/-- the events, made whole one by one -/
def wholeTo (es : List Ev) (k : Nat) : List Ev := (es.take k).map wholeEv ++ es.drop k
theorem wholeTo_len (es : List Ev) (k : Nat) : (wholeTo es k).length = es.length := by unfold wholeTo; rw [List.length_append, List.length_map, List.length_take, List.length_drop]; omega
theorem wholeTo_get {es : List Ev} {k : Nat} {x : Ev} (h : es[k]? = some x) : (wholeTo es k)[k]? = some x := by
  have hl := (List.getElem?_eq_some_iff.1 h).1
  unfold wholeTo
  rw [List.getElem?_append_right (by rw [List.length_map, List.length_take]; omega), List.length_map, List.length_take, show k - min k es.length = 0 by omega, List.getElem?_drop]
  exact h
theorem wholeTo_set {es : List Ev} {k : Nat} {x : Ev} (h : es[k]? = some x) : (wholeTo es k).set k (wholeEv x) = wholeTo es (k + 1) := by
  have hl := (List.getElem?_eq_some_iff.1 h).1
  unfold wholeTo
  rw [List.set_append_right _ _ (by rw [List.length_map, List.length_take]; omega), List.length_map, List.length_take, show k - min k es.length = 0 by omega, List.take_add_one, h, drop_cons h]
  simp
theorem evs_whole : ∀ {l : List Ev} {k : Nat} {x : Ev}, l[k]? = some x → evs (l.set k (wholeEv x)) = setL (evs l) (k * 5 + 3) [.int .i64 60, .bool false]
  | [], _, _, h => by simp at h
  | y :: l, 0, x, h => by simp at h; subst h; rfl
  | y :: l, k + 1, x, h => by
    have := evs_whole (l := l) (k := k) (x := x) (by simpa using h)
    show y.vs ++ evs (l.set k (wholeEv x)) = setL (y.vs ++ evs l) ((k + 1) * 5 + 3) _
    rw [this, show (k + 1) * 5 + 3 = y.vs.length + (k * 5 + 3) by simp [Ev.vs]; omega, setL_right]
/-- event k was made whole: two cells written -/
theorem Row.whole {w w' : World} {b k : Nat} {es : List Ev} {x : Ev} (h : Row w (some ⟨b, 0, none⟩) (evs (wholeTo es k))) (hx : es[k]? = some x) (hW : Wrote w w' b (k * 5 + 3) [.int .i64 60, .bool false]) : Row w' (some ⟨b, 0, none⟩) (evs (wholeTo es (k + 1))) := by
  have hl := (List.getElem?_eq_some_iff.1 hx).1
  rw [← wholeTo_set hx, evs_whole (wholeTo_get hx)]
  refine Wrote.row (w := w) (by rw [Nat.zero_add]; exact hW) h ?_
  rw [evs_len, wholeTo_len]
  simp
  omega
end Go.Proofs.Ytbekihiiildgmaa
namespace Go.Proofs.Ytbekihiiildgmaa
set_option linter.unusedVariables false
set_option linter.unusedSimpArgs false
open Go.RowKit Go.Maps
set_option maxHeartbeats 400000
/-- 'append(dst, src...)' of numbers, a step of a region -/
theorem step_ints {ops : Array Oper} {o : Oper} {a : Act} {K : Act → World → Prop} {Q : Exit → Act → World → Prop} {E : Prop} {w : World} (hgd : o.guard = none) (s x : Operand)
    (ho : o.op = .call { callee := .builtin .append, args := #[s, x], argTypes := #[24, 24] }) (base : Nat) (v : Value) (ys xs : List Int) (hs : a.eval s = v) (hO : OwnI w base v ys)
    (b p m n c : Nat) (hx : a.eval x = .slice (some ⟨b, p, none⟩) m c) (hm : m = xs.length) (hn : n = ys.length + m) (hR : Row w (some ⟨b, p, none⟩) (ints xs)) (h0 : 0 < m) (h63 : n ≤ 1000000) (hbase : base ≤ w.heap.size)
    (h : ∀ g cap w', OwnI w' base (.slice (some ⟨g, 0, none⟩) n cap) (ys ++ xs) → Below base w w' → (v.ownBlock = some g ∨ g = w.heap.size) → Agr (fun b => v.ownBlock = some b) w w' → K (a.put o.dst (.slice (some ⟨g, 0, none⟩) n cap)) w') : if Region.wanted o (yielded ops a.tmps) = true then Oper.wp Try.prog o a w K Q else E := by
  obtain ⟨ib, hib, hbz0, hbz1, hbz2⟩ := info_parts Try.info3_int'
  subst hn; subst hm
  refine step_append_lies w hgd s x _ ho base 3 ib _ 1 8 Try.underlying24 hib hbz0 hbz1 hbz2 rfl (by omega) v ys.length (ints ys) hs hO ⟨b, p, none⟩ xs.length c (ints xs) hx (by rw [ints_len]; omega) hR.news (ints_one' xs) h0 (by unfold maxLen; omega) (by omega) hbase w.heap.size rfl ?_
  intro g cap w' h1 h2 h3 h4
  refine h g cap w' ?_ (own_below hO hbase h2) h3 ((Agr.refl _ w).grown h2 (fun g hg => .inr hg))
  unfold OwnI
  rw [List.length_append, show ints (ys ++ xs) = ints ys ++ ints xs from List.map_append]
  exact h1
/-- a store of one's own, as many blocks and numbers as there are to be -/
def CopyPost (s : St) (w : World) (e : Ending) (w' : World) : Prop :=
  ∃ A c D d, e = .returned (.agg #[.slice A 4 c, .slice D 6 d]) ∧ OSt w' w.heap.size w'.heap.size A s.flash D s.disk ∧ Below w.heap.size w w'
set_option maxHeartbeats 4000000 in
set_option maxRecDepth 100000 in
theorem spec_l11Copy (s : St) (A D : Option Addr) (c d : Nat) (w : World) (hs : stFine s) (hF : Fl w A s.flash) (hD : Row w D (ints s.disk)) :
    Calls Try.prog 63 #[.agg #[.slice A 4 c, .slice D 6 d]] w (CopyPost s w) := by
  have h6 := hs.2.1
  have HS := Lib.hid hs
  obtain ⟨db, dO, rfl⟩ := hD.addr (ints_ne' (by intro e; rw [e] at h6; simp at h6))
  have H6 := Lib.hid h6
  clear hs h6
  obtain ⟨V, hV⟩ : ∃ V, ((w.alloc (.cells #[.slice A 4 c, .slice (some ⟨db, dO, none⟩) 6 d] 26)).alloc (.cells #[.slice none 0 0, .slice none 0 0] 26)) = V := ⟨_, rfl⟩
  have hB0 : Below w.heap.size w V := by rw [← hV]; (repeat (first | (with_reducible exact Below.refl _ _) | (with_reducible assumption) | (refine Below.setCell ?_ (by first | omega | exact hB.size | exact hb.size | (have h := hB.size; simp; omega) | (have h := hb.size; simp; omega) | (simp; omega) | simp) _) | (refine Below.alloc ?_ (by first | omega | exact hB.size | exact hb.size | (have h := hB.size; simp; omega) | (have h := hb.size; simp; omega) | (simp; omega) | simp) _) | (refine Below.drew ?_)))
  have hsV : V.heap.size = w.heap.size + 2 := by rw [← hV]; simp
  have x0 : V.cell? ⟨w.heap.size, 0, none⟩ = some (.slice A 4 c) := by rw [← hV]; simp [go_sem]
  have x1 : V.cell? ⟨w.heap.size, 1, none⟩ = some (.slice (some ⟨db, dO, none⟩) 6 d) := by rw [← hV]; simp [go_sem]
  have hN := Row.new (w.alloc (.cells #[.slice A 4 c, .slice (some ⟨db, dO, none⟩) 6 d] 26)) #[.slice none 0 0, .slice none 0 0] 26
  rw [hV] at hN
  simp only [World.size_alloc] at hN
  obtain ⟨r0, q0⟩ := hN.at0 (j := 0) rfl
  obtain ⟨r1, q1⟩ := hN.at0 (j := 1) rfl
  have hbox := Lib.hid (fun X (h : Below V.drew.heap.size V.drew X) => (⟨(h.cell (p := ⟨w.heap.size, 0, none⟩) (by show w.heap.size < V.heap.size; omega)).trans x0, (h.cell (p := ⟨w.heap.size, 1, none⟩) (by show w.heap.size < V.heap.size; omega)).trans x1⟩ : X.cell? ⟨w.heap.size, 0, none⟩ = some (.slice A 4 c) ∧ X.cell? ⟨w.heap.size, 1, none⟩ = some (.slice (some ⟨db, dO, none⟩) 6 d)))
  have hres := Lib.hid (fun X (h : Below V.drew.heap.size V.drew X) => (⟨(h.cell (p := ⟨w.heap.size + 1, 0, none⟩) (by show w.heap.size + 1 < V.heap.size; omega)).trans r0, (h.cell (p := ⟨w.heap.size + 1, 1, none⟩) (by show w.heap.size + 1 < V.heap.size; omega)).trans r1, (h.frozen (p := ⟨w.heap.size + 1, 0, none⟩) (by show w.heap.size + 1 < V.heap.size; omega)).trans q0, (h.frozen (p := ⟨w.heap.size + 1, 1, none⟩) (by show w.heap.size + 1 < V.heap.size; omega)).trans q1⟩ : X.cell? ⟨w.heap.size + 1, 0, none⟩ = some (.slice none 0 0) ∧ X.cell? ⟨w.heap.size + 1, 1, none⟩ = some (.slice none 0 0) ∧ X.frozen? ⟨w.heap.size + 1, 0, none⟩ = false ∧ X.frozen? ⟨w.heap.size + 1, 1, none⟩ = false))
  have hFx := Lib.hid (fun X (h : Below V.drew.heap.size V.drew X) => (hF.below hB0 (Nat.le_refl _)).drew'.below h (Nat.le_refl _))
  have hDx := Lib.hid (fun X (h : Below V.drew.heap.size V.drew X) => (hD.below hB0 (Nat.le_refl _)).drew.below h (Nat.le_refl _))
  have hvb : Below V.drew.heap.size V.drew V.drew := Below.refl _ _
  have hvd : Below w.heap.size w V.drew := hB0.drew
  have HV := Lib.hid hsV
  clear x0 x1 hN r0 r1 q0 q1 hF hD hB0 hsV
  go_enter Try.func63, Try.ntmps63
  go_wp2
  (try rw [hV])
  refine wp_region_held_drew (S := fun X => X.cell? ⟨w.heap.size, 0, none⟩ = some (.slice A 4 c) ∧ X.cell? ⟨w.heap.size, 1, none⟩ = some (.slice (some ⟨db, dO, none⟩) 6 d)) (by kernel_rfl) (hbox.out _ hvb) (fun hHeld0 => ?_)
  refine wpAnyH_take (i := 0) (v := ?vc1) rfl (by kernel_rfl) (by kernel_rfl) (by kernel_rfl) (fun _ _ _ h => h) (Or.inl ⟨by kernel_rfl, ?yc1⟩) hHeld0 ?rc1
  case yc1 => (intro w' hS; (try dsimp only at hS); obtain ⟨s0, s1⟩ := hS; (try go_simp); (try with_reducible rfl))
  try simp only [Act.put, List.getElem_toArray, List.getElem_cons_zero, List.getElem_cons_succ, List.setIfInBounds_toArray, List.set_cons_zero, List.set_cons_succ]
  refine wpAnyH_take (i := 1) (v := ?vc2) rfl (by kernel_rfl) (by kernel_rfl) (by kernel_rfl) (fun _ _ _ h => h) (Or.inl ⟨by kernel_rfl, ?yc2⟩) hHeld0 ?rc2
  case yc2 => (intro w' hS; (try dsimp only at hS); obtain ⟨s0, s1⟩ := hS; (try go_simp); (try with_reducible rfl))
  try simp only [Act.put, List.getElem_toArray, List.getElem_cons_zero, List.getElem_cons_succ, List.setIfInBounds_toArray, List.set_cons_zero, List.set_cons_succ]
  refine wpAnyH_take (i := 4) (v := ?vc3) rfl (by kernel_rfl) (by kernel_rfl) (by kernel_rfl) (fun _ _ _ h => h) (Or.inl ⟨by kernel_rfl, ?yc3⟩) hHeld0 ?rc3
  case yc3 => (intro w' hS; (try dsimp only at hS); obtain ⟨s0, s1⟩ := hS; (try go_simp); (try with_reducible rfl))
  try simp only [Act.put, List.getElem_toArray, List.getElem_cons_zero, List.getElem_cons_succ, List.setIfInBounds_toArray, List.set_cons_zero, List.set_cons_succ]
  refine wpAnyH_take (i := 5) (v := ?vc4) rfl (by kernel_rfl) (by kernel_rfl) (by kernel_rfl) (fun _ _ _ h => h) (Or.inl ⟨by kernel_rfl, ?yc4⟩) hHeld0 ?rc4
  case yc4 => (intro w' hS; (try dsimp only at hS); obtain ⟨s0, s1⟩ := hS; (try go_simp); (try with_reducible rfl))
  try simp only [Act.put, List.getElem_toArray, List.getElem_cons_zero, List.getElem_cons_succ, List.setIfInBounds_toArray, List.set_cons_zero, List.set_cons_succ]
  refine wpAnyH_ready (rs := [2, 3]) (by kernel_rfl) (by simp) ?_
  refine AllReadyH.cons rfl (fun K hK => ?_) (AllReadyH.cons rfl (fun K hK => ?_) AllReadyH.nil)
  · go_simp
    refine (spec_l2Copy A c s.flash _ HS.out.1.1 (fun b hb => (HS.out.1.2 b hb).1) (hFx.out _ hvb)).mono ?_
    rintro e w2 ⟨g, c2, rfl, hc2, hO2, hc⟩
    have hb2 := hvb.trans (hc.mono hvb.size)
    have hz2 := hc.size
    clear hc
    go_wp2_with fail
    refine hK.out _ _ ((hbox.out _ hb2)) (fun hHc1 => ?_)
    clear hK K
    try simp only [Act.put, List.getElem_toArray, List.getElem_cons_zero, List.getElem_cons_succ, List.setIfInBounds_toArray, List.set_cons_zero, List.set_cons_succ]
    refine wpAnyH_ready (rs := [3]) (by kernel_rfl) (by simp) ?_
    refine AllReadyH.cons rfl (fun K hK => ?_) AllReadyH.nil
    go_simp
    have hb3 := hb2.alloc hb2.size (.cells #[] 3)
    have hOI : OwnI (w2.alloc (.cells #[] 3)) w2.heap.size (.slice (some ⟨w2.heap.size, 0, none⟩) 0 0) [] := OwnI.lit w2 _ (Nat.le_refl _)
    have hz3 : (w2.alloc (.cells #[] 3)).heap.size = w2.heap.size + 1 := by simp
    replace hO2 := hO2.alloc (.cells #[] 3)
    refine hK.out _ _ ((hbox.out _ hb3)) (fun hHc2 => ?_)
    clear hK K
    try simp only [Act.put, List.getElem_toArray, List.getElem_cons_zero, List.getElem_cons_succ, List.setIfInBounds_toArray, List.set_cons_zero, List.set_cons_succ]
    refine wpAnyH_ready (rs := [6]) (by kernel_rfl) (by simp) ?_
    refine AllReadyH.cons rfl (fun K hK => ?_) AllReadyH.nil
    refine step_ints rfl (.tmp 6) (.tmp 8) rfl w2.heap.size (.slice (some ⟨w2.heap.size, 0, none⟩) 0 0) [] s.disk rfl hOI db dO 6 6 d rfl H6.out.symm (by simp) (hDx.out _ hb3) (by omega) (by omega) (by rw [hz3]; omega) ?_
    intro g7 c7 w7 hO7 hB7 hg7 hA7
    rw [List.nil_append] at hO7
    have hb7 : Below V.drew.heap.size V.drew w7 := hb3.trans (hB7.mono (by have h1 := hb3.size; have h2 := hb2.size; omega))
    have hO9 : OFl w7 V.heap.size w2.heap.size (some ⟨g, 0, none⟩) s.flash := hO2.keep fun b h1 h2 hl => hB7.block b h2
    have hgd : g7 < V.heap.size ∨ w2.heap.size ≤ g7 := .inr ((hO7.out.elim fun A h => h.elim fun c h => by have e := h.1; simp only [Value.slice.injEq] at e; have := h.2.2.1 g7 (by rw [← e.1]; exact blk_some.2 rfl); omega))
    refine hK.out _ _ ((hbox.out _ hb7)) (fun hHc3 => ?_)
    clear hK K
    try simp only [Act.put, List.getElem_toArray, List.getElem_cons_zero, List.getElem_cons_succ, List.setIfInBounds_toArray, List.set_cons_zero, List.set_cons_succ]
    refine wpAnyH_take (i := 7) (v := ?vc5) rfl (by kernel_rfl) (by kernel_rfl) (by kernel_rfl) (fun _ _ _ h => h) (Or.inl ⟨by kernel_rfl, ?yc5⟩) hHc3 ?rc5
    case yc5 => (intro w' hS; (try dsimp only at hS); obtain ⟨s0, s1⟩ := hS; (try go_simp); (try with_reducible rfl))
    try simp only [Act.put, List.getElem_toArray, List.getElem_cons_zero, List.getElem_cons_succ, List.setIfInBounds_toArray, List.set_cons_zero, List.set_cons_succ]
    refine wpAnyH_ready (rs := [8]) (by kernel_rfl) (by simp) ?_
    refine AllReadyH.cons rfl (fun K hK => ?_) AllReadyH.nil
    obtain ⟨r0, r1, q0, q1⟩ := hres.out _ hb7
    go_simp
    have hWs := laid_cells r0 r1 (.slice (some ⟨g, 0, none⟩) 4 c2) (.slice (some ⟨g7, 0, none⟩) 6 c7)
    have hbk := hbox.out _ hb7
    have hbx : ((w7.setCell ⟨w.heap.size + 1, 0, none⟩ (.slice (some ⟨g, 0, none⟩) 4 c2)).setCell ⟨w.heap.size + 1, 1, none⟩ (.slice (some ⟨g7, 0, none⟩) 6 c7)).cell? ⟨w.heap.size, 0, none⟩ = some (.slice A 4 c) ∧ ((w7.setCell ⟨w.heap.size + 1, 0, none⟩ (.slice (some ⟨g, 0, none⟩) 4 c2)).setCell ⟨w.heap.size + 1, 1, none⟩ (.slice (some ⟨g7, 0, none⟩) 6 c7)).cell? ⟨w.heap.size, 1, none⟩ = some (.slice (some ⟨db, dO, none⟩) 6 d) := ⟨(hWs.agr.cell (b := w.heap.size) (lt_of_cell hbk.1) (by omega) 0).trans hbk.1, (hWs.agr.cell (b := w.heap.size) (lt_of_cell hbk.1) (by omega) 1).trans hbk.2⟩
    refine hK.out _ _ (hbx) (fun hHc4 => ?_)
    clear hK K
    try simp only [Act.put, List.getElem_toArray, List.getElem_cons_zero, List.getElem_cons_succ, List.setIfInBounds_toArray, List.set_cons_zero, List.set_cons_succ]
    refine wpAnyH_done (by kernel_rfl) ?_ _
    have hz7 := hb7.size
    have hVz := HV.out
    have hVd : V.drew.heap.size = V.heap.size := rfl
    obtain ⟨_, _, e7, hR7, hbk7, _⟩ := hO7.out
    simp only [Value.slice.injEq] at e7
    obtain ⟨rfl, -, rfl⟩ := e7
    have hgl := hbk7 g7 (blk_some.2 rfl)
    have hst : OSt w7 V.heap.size w7.heap.size (some ⟨g, 0, none⟩) s.flash (some ⟨g7, 0, none⟩) s.disk := OSt.mk' hO9 hR7 (Nat.le_refl _) (by have := hb2.size; have := hA7.size; omega) (by have h := hgl.1; have := hb2.size; omega) hgl.2 (by omega)
    have hBf := hvd.trans (hb7.mono (by omega))
    have r2 := hWs.new_ 0 _ rfl
    have r3 := hWs.new_ 1 _ rfl
    have hOf := hst.keep (w' := ((w7.setCell ⟨w.heap.size + 1, 0, none⟩ (.slice (some ⟨g, 0, none⟩) 4 c2)).setCell ⟨w.heap.size + 1, 1, none⟩ (.slice (some ⟨g7, 0, none⟩) 6 c7))) fun b h1 h2 hl => hWs.agr.block b hl (by omega)
    have hBg := hBf.trans (hWs.agr.below (B := w.heap.size) (by omega) (fun i hi => by omega))
    have hsz := hWs.size
    clear hWs hst
    go_wp2
    exact bodyPost_ret (v := .agg #[.slice (some ⟨g, 0, none⟩) 4 c2, .slice (some ⟨g7, 0, none⟩) 6 c7]) (by simp [results, Try.results63, go_sem, r2, r3, r0, r1]) rfl ⟨_, _, _, _, rfl, hOf.mono (by omega) (by omega), hBg⟩
  · go_simp
    have hb3 := hvb.alloc hvb.size (.cells #[] 3)
    have hOI : OwnI (V.drew.alloc (.cells #[] 3)) V.drew.heap.size (.slice (some ⟨V.drew.heap.size, 0, none⟩) 0 0) [] := OwnI.lit V.drew _ (Nat.le_refl _)
    have hz3 : (V.drew.alloc (.cells #[] 3)).heap.size = V.drew.heap.size + 1 := by simp
    refine hK.out _ _ ((hbox.out _ hb3)) (fun hHc5 => ?_)
    clear hK K
    try simp only [Act.put, List.getElem_toArray, List.getElem_cons_zero, List.getElem_cons_succ, List.setIfInBounds_toArray, List.set_cons_zero, List.set_cons_succ]
    refine wpAnyH_ready (rs := [2]) (by kernel_rfl) (by simp) ?_
    refine AllReadyH.cons rfl (fun K hK => ?_) AllReadyH.nil
    go_simp
    refine (spec_l2Copy A c s.flash _ HS.out.1.1 (fun b hb => (HS.out.1.2 b hb).1) (hFx.out _ hb3)).mono ?_
    rintro e w2 ⟨g, c2, rfl, hc2, hO2, hc⟩
    have hb2 := hb3.trans (hc.mono hb3.size)
    have hz2 := hc.size
    replace hOI := hOI.below hc (Nat.le_refl _)
    clear hc
    go_wp2_with fail
    refine hK.out _ _ ((hbox.out _ hb2)) (fun hHc6 => ?_)
    clear hK K
    try simp only [Act.put, List.getElem_toArray, List.getElem_cons_zero, List.getElem_cons_succ, List.setIfInBounds_toArray, List.set_cons_zero, List.set_cons_succ]
    refine wpAnyH_ready (rs := [6]) (by kernel_rfl) (by simp) ?_
    refine AllReadyH.cons rfl (fun K hK => ?_) AllReadyH.nil
    refine step_ints rfl (.tmp 6) (.tmp 8) rfl V.drew.heap.size (.slice (some ⟨V.heap.size, 0, none⟩) 0 0) [] s.disk rfl hOI db dO 6 6 d rfl H6.out.symm (by simp) (hDx.out _ hb2) (by omega) (by omega) (by have := hb2.size; exact this) ?_
    intro g7 c7 w7 hO7 hB7 hg7 hA7
    rw [List.nil_append] at hO7
    have hb7 : Below V.drew.heap.size V.drew w7 := hb2.trans (hB7.mono (by have h1 := hb2.size; exact Nat.le_refl _))
    have hgq : g7 = V.heap.size ∨ g7 = w2.heap.size := by
      rcases hg7 with h | h
      · left; simpa [Value.ownBlock] using h.symm
      · right; exact h
    have hO9 : OFl w7 (V.heap.size + 1) w2.heap.size (some ⟨g, 0, none⟩) s.flash := by
      have hO2' : OFl w2 (V.heap.size + 1) w2.heap.size (some ⟨g, 0, none⟩) s.flash := hO2.mono (by simp) (Nat.le_refl _)
      exact hO2'.keep fun b h1 h2 hl => hA7.block b hl (by simp only [Value.ownBlock]; intro e; cases e; omega)
    refine hK.out _ _ ((hbox.out _ hb7)) (fun hHc7 => ?_)
    clear hK K
    try simp only [Act.put, List.getElem_toArray, List.getElem_cons_zero, List.getElem_cons_succ, List.setIfInBounds_toArray, List.set_cons_zero, List.set_cons_succ]
    refine wpAnyH_take (i := 7) (v := ?vc6) rfl (by kernel_rfl) (by kernel_rfl) (by kernel_rfl) (fun _ _ _ h => h) (Or.inl ⟨by kernel_rfl, ?yc6⟩) hHc7 ?rc6
    case yc6 => (intro w' hS; (try dsimp only at hS); obtain ⟨s0, s1⟩ := hS; (try go_simp); (try with_reducible rfl))
    try simp only [Act.put, List.getElem_toArray, List.getElem_cons_zero, List.getElem_cons_succ, List.setIfInBounds_toArray, List.set_cons_zero, List.set_cons_succ]
    refine wpAnyH_ready (rs := [8]) (by kernel_rfl) (by simp) ?_
    refine AllReadyH.cons rfl (fun K hK => ?_) AllReadyH.nil
    obtain ⟨r0, r1, q0, q1⟩ := hres.out _ hb7
    go_simp
    have hWs := laid_cells r0 r1 (.slice (some ⟨g, 0, none⟩) 4 c2) (.slice (some ⟨g7, 0, none⟩) 6 c7)
    have hbk := hbox.out _ hb7
    have hbx : ((w7.setCell ⟨w.heap.size + 1, 0, none⟩ (.slice (some ⟨g, 0, none⟩) 4 c2)).setCell ⟨w.heap.size + 1, 1, none⟩ (.slice (some ⟨g7, 0, none⟩) 6 c7)).cell? ⟨w.heap.size, 0, none⟩ = some (.slice A 4 c) ∧ ((w7.setCell ⟨w.heap.size + 1, 0, none⟩ (.slice (some ⟨g, 0, none⟩) 4 c2)).setCell ⟨w.heap.size + 1, 1, none⟩ (.slice (some ⟨g7, 0, none⟩) 6 c7)).cell? ⟨w.heap.size, 1, none⟩ = some (.slice (some ⟨db, dO, none⟩) 6 d) := ⟨(hWs.agr.cell (b := w.heap.size) (lt_of_cell hbk.1) (by omega) 0).trans hbk.1, (hWs.agr.cell (b := w.heap.size) (lt_of_cell hbk.1) (by omega) 1).trans hbk.2⟩
    refine hK.out _ _ (hbx) (fun hHc8 => ?_)
    clear hK K
    try simp only [Act.put, List.getElem_toArray, List.getElem_cons_zero, List.getElem_cons_succ, List.setIfInBounds_toArray, List.set_cons_zero, List.set_cons_succ]
    refine wpAnyH_done (by kernel_rfl) ?_ _
    have hz7 := hb7.size
    have hVz := HV.out
    have hVd : V.drew.heap.size = V.heap.size := rfl
    obtain ⟨_, _, e7, hR7, hbk7, _⟩ := hO7.out
    simp only [Value.slice.injEq] at e7
    obtain ⟨rfl, -, rfl⟩ := e7
    have hgl := hbk7 g7 (blk_some.2 rfl)
    have hst : OSt w7 V.heap.size w7.heap.size (some ⟨g, 0, none⟩) s.flash (some ⟨g7, 0, none⟩) s.disk := OSt.mk' hO9 hR7 (by omega) (by have := hb2.size; have := hA7.size; omega) (by have h := hgl.1; omega) hgl.2 (by omega)
    have hBf := hvd.trans (hb7.mono (by omega))
    have r2 := hWs.new_ 0 _ rfl
    have r3 := hWs.new_ 1 _ rfl
    have hOf := hst.keep (w' := ((w7.setCell ⟨w.heap.size + 1, 0, none⟩ (.slice (some ⟨g, 0, none⟩) 4 c2)).setCell ⟨w.heap.size + 1, 1, none⟩ (.slice (some ⟨g7, 0, none⟩) 6 c7))) fun b h1 h2 hl => hWs.agr.block b hl (by omega)
    have hBg := hBf.trans (hWs.agr.below (B := w.heap.size) (by omega) (fun i hi => by omega))
    have hsz := hWs.size
    clear hWs hst
    go_wp2
    exact bodyPost_ret (v := .agg #[.slice (some ⟨g, 0, none⟩) 4 c2, .slice (some ⟨g7, 0, none⟩) 6 c7]) (by simp [results, Try.results63, go_sem, r2, r3, r0, r1]) rfl ⟨_, _, _, _, rfl, hOf.mono (by omega) (by omega), hBg⟩
theorem stepB_fine {x : Sp} (h : stepB x = true) : spFine x := by
  refine ⟨fun hk => ?_, fun hk => ?_, fun hk => ?_⟩
  · obtain ⟨_, _, h1, h2⟩ := stepB_tells h hk
    have := valB_iff.1 h2
    exact ⟨h1.1, h1.2, this.1, this.2⟩
  · rcases hk with hk | hk
    · obtain ⟨_, _, _, h1, h2⟩ := stepB_wipes h hk; exact ⟨h1, h2⟩
    · obtain ⟨_, _, h1, _⟩ := stepB_writes h hk; exact h1
  · exact (stepB_writes h hk).2.2.2
end Go.Proofs.Ytbekihiiildgmaa
open Go.RowKit Go.IntWalk Go.Maps
namespace Go.Proofs.Ytbekihiiildgmaa
set_option linter.unusedVariables false
set_option linter.unusedSimpArgs false
set_option maxHeartbeats 4000000
set_option maxRecDepth 100000
theorem four_cells {W X : World} {b : Nat} {u v : Value} (h : Below W.heap.size W X) (hb : b < W.heap.size) (h0 : W.cell? ⟨b, 0, none⟩ = some u) (h1 : W.cell? ⟨b, 1, none⟩ = some v) (f0 : W.frozen? ⟨b, 0, none⟩ = false) (f1 : W.frozen? ⟨b, 1, none⟩ = false) :
    X.cell? ⟨b, 0, none⟩ = some u ∧ X.cell? ⟨b, 1, none⟩ = some v ∧ X.frozen? ⟨b, 0, none⟩ = false ∧ X.frozen? ⟨b, 1, none⟩ = false :=
  ⟨(h.cell (p := ⟨b, 0, none⟩) hb).trans h0, (h.cell (p := ⟨b, 1, none⟩) hb).trans h1, (h.frozen (p := ⟨b, 0, none⟩) hb).trans f0, (h.frozen (p := ⟨b, 1, none⟩) hb).trans f1⟩
theorem toR_no {s : St} {xs : List Sp} {cut : Int} {torn : Bool} (h : cut < 0 ∨ storeOk s = false ∨ allB xs = false) : toR s xs cut torn = (st0, false) := by unfold toR; rw [if_pos h]
theorem toR_yes {s : St} {xs : List Sp} {cut : Int} {torn : Bool} (h1 : 0 ≤ cut) (h2 : storeOk s = true) (h3 : allB xs = true) : toR s xs cut torn = (doTo s xs cut torn, true) := by
  unfold toR
  rw [if_neg (by rintro (e | e | e); omega; rw [h2] at e; cases e; rw [h3] at e; cases e)]
theorem spec_StepsTo (s : St) (xs : List Sp) (cut : Int) (torn : Bool) (A D V : Option Addr) (n m c d cs : Nat) (w : World) (hn : n = s.flash.length) (hm : m = s.disk.length) (hl : s.flash.length < 1000000000000) (hxl : xs.length < 1000000000000) (hF : Fl w A s.flash) (hD : Row w D (ints s.disk)) (hX : Row w V (sps xs)) (hV : ∀ b, blk V b → b < w.heap.size) :
    Calls Try.prog 32 #[.agg #[.slice A n c, .slice D m d], .slice V xs.length cs, .int .i64 cut, .bool torn] w (ToPost (toR s xs cut torn) w) := by
  have hZ : ∃ W, (w.alloc (.cells #[.slice A n c, .slice D m d] 26)).alloc (.cells #[.slice none 0 0, .slice none 0 0] 26) = W := ⟨_, rfl⟩
  obtain ⟨W, hW⟩ := hZ
  have hB0 : Below w.heap.size w W := by rw [← hW]; (repeat (first | (with_reducible exact Below.refl _ _) | (with_reducible assumption) | (refine Below.setCell ?_ (by first | omega | exact hB.size | exact hb.size | (have h := hB.size; simp; omega) | (have h := hb.size; simp; omega) | (simp; omega) | simp) _) | (refine Below.alloc ?_ (by first | omega | exact hB.size | exact hb.size | (have h := hB.size; simp; omega) | (have h := hb.size; simp; omega) | (simp; omega) | simp) _) | (refine Below.drew ?_)))
  have hsW : W.heap.size = w.heap.size + 2 := by rw [← hW]; simp
  have x0 : W.cell? ⟨w.heap.size, 0, none⟩ = some (.slice A n c) := by rw [← hW]; simp [go_sem]
  have x1 : W.cell? ⟨w.heap.size, 1, none⟩ = some (.slice D m d) := by rw [← hW]; simp [go_sem]
  have hN := Row.new (w.alloc (.cells #[.slice A n c, .slice D m d] 26)) #[.slice none 0 0, .slice none 0 0] 26
  rw [hW] at hN
  simp only [World.size_alloc] at hN
  obtain ⟨r0, q0⟩ := hN.at0 (j := 0) rfl
  obtain ⟨r1, q1⟩ := hN.at0 (j := 1) rfl
  have HV := Lib.hid hV
  have HN := Lib.hid hn
  have HM := Lib.hid hm
  have HL := Lib.hid hl
  have HFW := Lib.hid (hF.below hB0 (Nat.le_refl _))
  have HDW := Lib.hid (hD.below hB0 (Nat.le_refl _))
  have HXW := Lib.hid (hX.below hB0 (Nat.le_refl _))
  have HSW := Lib.hid hsW
  have HEND := Lib.hid (fun (X : World) (t : St × Bool) (h : Below W.heap.size W X) => hB0.trans (h.mono (by omega)))
  clear hN hV hn hm hl hF hD hX hsW
  go_enter Try.func32, Try.ntmps32
  go_wp2
  (try rw [hW])
  go_loopw [10] (fun i wr => ∃ k : Nat, k ≤ xs.length ∧ i = .int .i64 k ∧ Hid (∀ x ∈ xs.take k, stepB x = true) ∧ Below W.heap.size W wr) (fun i _ => xs.length - (intOf i).toNat)
  case atStart => exact ⟨0, by omega, rfl, fun x hx => by simp at hx, Below.refl _ _⟩
  case round =>
    obtain ⟨k, hk, rfl, hC, hBr⟩ := hrel
    obtain ⟨y0, y1, _, _⟩ := four_cells (u := .slice A n c) (v := .slice D m d) hBr (by have := HSW.out; omega) x0 x1 (by rw [← hW]; simp [go_sem]) (by rw [← hW]; simp [go_sem])
    obtain ⟨u0, u1, u2, u3⟩ := four_cells (b := w.heap.size + 1) hBr (by have := HSW.out; omega) r0 r1 q0 q1
    have hzr := hBr.size
    have hz1 : w.heap.size + 1 < wr.heap.size := by have := HSW.out; omega
    have hBw := HEND.out wr (st0, false) hBr
    clear x0 x1 r0 r1 q0 q1
    by_cases hlt : k < xs.length
    · obtain ⟨x, hx⟩ := get_some hlt
      have hXr := HXW.out.below hBr (Nat.le_refl _)
      obtain ⟨vb, vo, rfl⟩ : ∃ b o, V = some ⟨b, o, none⟩ := hXr.addr (by intro e; have := sps_len xs; rw [e] at this; simp at this; omega)
      obtain ⟨c0, c1, c2, c3, c4, c5, c6, c7⟩ := hXr.sp hx
      have hk1 : (k : Int) < xs.length := by omega
      have e1 : IntKind.i64.wrap ((k : Int) + 1) = (k : Int) + 1 := IntWalk.i64_in _ (by omega)
      have hC2 : Hid (stepB x = true → ∀ y ∈ xs.take (k + 1), stepB y = true) := by
        intro hb y hy
        rw [List.take_add_one, hx] at hy
        rcases List.mem_append.1 hy with hy | hy
        · exact hC.out y hy
        · simp at hy; subst hy; exact hb
      have hNB : Hid (stepB x = false → allB xs = false) := by
        intro hb
        by_cases h : allB xs = true
        · rw [allB_iff.1 h x (List.mem_of_getElem? hx)] at hb; cases hb
        · simpa using h
      clear hx hXr hC
      go_wp2_with fail
      refine (spec_l12Step x _).mono ?_
      rintro e w2 ⟨rfl, hb⟩
      have hB2 := hBr.trans (hb.mono hzr)
      obtain ⟨t0, t1, t2, t3⟩ := four_cells (b := w.heap.size + 1) hb hz1 u0 u1 u2 u3
      have hz2 := hb.size
      have hz12 : w.heap.size + 1 < w2.heap.size := by omega
      have hBw2 := HEND.out w2 (st0, false) hB2
      clear u0 u1 u2 u3 hb
      cases hsb : stepB x with
      | true =>
        have HC := Lib.hid (hC2.out hsb)
        clear hC2 hNB hsb
        go_wp2
        go_roundw
        (case rel => exact ⟨k + 1, by omega, by go_num, HC, hB2⟩)
        (case measure => simp [intOf]; omega)
      | false =>
        have hfin := Lib.hid (toR_no (s := s) (xs := xs) (cut := cut) (torn := torn) (.inr (.inr (hNB.out hsb))))
        clear hC2 hNB hsb
        go_wp2
        refine bodyPost_ret (v := .tuple #[.agg #[.slice none 0 0, .slice none 0 0], .bool false]) (by simp [results, Try.results32, go_sem, hz12, t0, t1]) rfl ?_
        rw [hfin.out]
        exact ToPost.fail ((hBw2.setCell (p := ⟨w.heap.size + 1, 0, none⟩) (show w.heap.size ≤ w.heap.size + 1 by omega) _).setCell (p := ⟨w.heap.size + 1, 1, none⟩) (show w.heap.size ≤ w.heap.size + 1 by omega) _)
    · have hk1 : ¬ (k : Int) < xs.length := by omega
      have HA := Lib.hid (allB_iff.2 (fun x hx => hC.out x (by rw [List.take_of_length_le (by omega)]; exact hx)))
      clear hC
      go_wp2_with fail
      refine (spec_StoreOk s A D n m c d _ HN.out HM.out HL.out (HFW.out.below hBr (Nat.le_refl _)) (HDW.out.below hBr (Nat.le_refl _))).mono ?_
      rintro e w2 ⟨rfl, hb⟩
      have hB2 := hBr.trans (hb.mono hzr)
      obtain ⟨t0, t1, t2, t3⟩ := four_cells (b := w.heap.size + 1) hb hz1 u0 u1 u2 u3
      replace y0 := (hb.cell (p := ⟨w.heap.size, 0, none⟩) (by show w.heap.size < _; omega)).trans y0
      replace y1 := (hb.cell (p := ⟨w.heap.size, 1, none⟩) (by show w.heap.size < _; omega)).trans y1
      have hz2 := hb.size
      have hz12 : w.heap.size + 1 < w2.heap.size := by omega
      have hBw2 := HEND.out w2 (st0, false) hB2
      clear u0 u1 u2 u3 hb
      by_cases hsok : storeOk s = true
      · by_cases hc0 : cut < 0
        · have hfin := Lib.hid (toR_no (s := s) (xs := xs) (cut := cut) (torn := torn) (.inl hc0))
          rw [hsok]
          clear hsok
          go_wp2
          refine bodyPost_ret (v := .tuple #[.agg #[.slice none 0 0, .slice none 0 0], .bool false]) (by simp [results, Try.results32, go_sem, hz12, t0, t1]) rfl ?_
          rw [hfin.out]
          exact ToPost.fail ((hBw2.setCell (p := ⟨w.heap.size + 1, 0, none⟩) (show w.heap.size ≤ w.heap.size + 1 by omega) _).setCell (p := ⟨w.heap.size + 1, 1, none⟩) (show w.heap.size ≤ w.heap.size + 1 by omega) _)
        · have hfin := Lib.hid (toR_yes (s := s) (xs := xs) (cut := cut) (torn := torn) (by omega) hsok HA.out)
          have HOK := Lib.hid (storeOk_iff.1 hsok)
          obtain rfl : n = 4 := by have := HN.out; have := flashOk_len HOK.out.flash; omega
          obtain rfl : m = 6 := by have := HM.out; have := HOK.out.len; omega
          have HXF := Lib.hid (fun x hx => stepB_fine (allB_iff.1 HA.out x hx))
          rw [hsok]
          clear hsok
          go_wp2_with fail
          refine (spec_l11Copy s A D c d _ HOK.out.fine (HFW.out.below hB2 (Nat.le_refl _)) (HDW.out.below hB2 (Nat.le_refl _))).mono ?_
          rintro e w3 ⟨A3, c3, D3, d3, rfl, hO3, hb⟩
          have hB3 := hB2.trans (hb.mono hB2.size)
          obtain ⟨t0, t1, t2, t3⟩ := four_cells (b := w.heap.size + 1) hb hz12 t0 t1 t2 t3
          have hz3 := hb.size
          clear hb
          go_wp2_with fail
          refine (spec_l12To s xs cut torn A3 D3 V c3 d3 cs w2.heap.size w3.heap.size _ HOK.out.fine HXF.out hxl (Nat.le_refl _) hO3 (HXW.out.below hB3 (Nat.le_refl _)) (fun b hb hh => by have := HV.out b hb; omega)).mono ?_
          rintro e w4 ⟨rfl, hO4, hA4⟩
          have hz4 := hA4.size
          have v0 := (hA4.cell (b := w.heap.size + 1) (by omega) (by omega) 0).trans t0
          have v1 := (hA4.cell (b := w.heap.size + 1) (by omega) (by omega) 1).trans t1
          have v2 := (hA4.fz (b := w.heap.size + 1) (by omega) (by omega) 0).trans t2
          have v3 := (hA4.fz (b := w.heap.size + 1) (by omega) (by omega) 1).trans t3
          have hz14 : w.heap.size + 1 < w4.heap.size := by omega
          have hBw4 : Below w.heap.size w w4 := (HEND.out w3 (st0, false) hB3).trans (hA4.below (B := w.heap.size) (by omega) (fun i hi => by omega))
          have HT := Lib.hid (doTo_fine HOK.out.fine HXF.out cut torn)
          clear t0 t1 t2 t3 hA4
          go_wp2
          have hF : Agr (· = w.heap.size + 1) w4 ((w4.setCell ⟨w.heap.size + 1, 0, none⟩ (.slice A3 4 c3)).setCell ⟨w.heap.size + 1, 1, none⟩ (.slice D3 6 d3)) := Agr.setCell (S := fun b => b = w.heap.size + 1) (Agr.setCell (S := fun b => b = w.heap.size + 1) (Agr.refl _ _) (p := ⟨w.heap.size + 1, 0, none⟩) (.inr rfl) _) (p := ⟨w.heap.size + 1, 1, none⟩) (.inr rfl) _
          refine bodyPost_ret (v := .tuple #[.agg #[.slice A3 4 c3, .slice D3 6 d3], .bool true]) (by simp [results, Try.results32, go_sem, hz14, v0, v1]) rfl ?_
          rw [hfin.out]
          have hOf := hO4.keep (w' := (w4.setCell ⟨w.heap.size + 1, 0, none⟩ (.slice A3 4 c3)).setCell ⟨w.heap.size + 1, 1, none⟩ (.slice D3 6 d3)) fun b h1 h2 hl => hF.block b hl (by omega)
          refine ⟨A3, c3, D3, d3, by dsimp only; rw [HT.out.1.1, HT.out.2.1], ?_, hOf.disk, fun b hb => by have := hOf.dlo b hb; omega, hBw4.trans (hF.below (B := w.heap.size) (by omega) (fun i hi => by omega))⟩
          obtain ⟨hs, h1, h2⟩ := hOf.flAt
          exact ⟨hs, h1, fun b hb => by have := h2 b hb; omega⟩
      · have hfin := Lib.hid (toR_no (s := s) (xs := xs) (cut := cut) (torn := torn) (.inr (.inl (by simpa using hsok))))
        rw [show storeOk s = false from by simpa using hsok]
        clear hsok
        go_wp2
        refine bodyPost_ret (v := .tuple #[.agg #[.slice none 0 0, .slice none 0 0], .bool false]) (by simp [results, Try.results32, go_sem, hz12, t0, t1]) rfl ?_
        rw [hfin.out]
        exact ToPost.fail ((hBw2.setCell (p := ⟨w.heap.size + 1, 0, none⟩) (show w.heap.size ≤ w.heap.size + 1 by omega) _).setCell (p := ⟨w.heap.size + 1, 1, none⟩) (show w.heap.size ≤ w.heap.size + 1 by omega) _)
end Go.Proofs.Ytbekihiiildgmaa
namespace Go.Proofs.Ytbekihiiildgmaa
set_option linter.unusedVariables false
set_option linter.unusedSimpArgs false
/-- what StepsTo answers, told -/
theorem toR_true {s : St} {xs : List Sp} {cut : Int} {torn : Bool} (h : (toR s xs cut torn).2 = true) : 0 ≤ cut ∧ Okay s ∧ (∀ x ∈ xs, stepB x = true) ∧ toR s xs cut torn = (doTo s xs cut torn, true) := by
  unfold toR at h
  split at h
  · cases h
  · rename_i hc
    have h1 : 0 ≤ cut := by
      by_cases h : cut < 0
      · exact absurd (.inl h) hc
      · omega
    have h2 : storeOk s = true := by simpa using fun h => hc (.inr (.inl h))
    have h3 : allB xs = true := by simpa using fun h => hc (.inr (.inr h))
    exact ⟨h1, storeOk_iff.1 h2, allB_iff.1 h3, toR_yes h1 h2 h3⟩
theorem toR_false {s : St} {xs : List Sp} {cut : Int} {torn : Bool} (h : ¬ (toR s xs cut torn).2 = true) : toR s xs cut torn = (st0, false) := by
  unfold toR at h ⊢
  split
  · rfl
  · rename_i hc; rw [if_neg hc] at h; exact absurd rfl h
end Go.Proofs.Ytbekihiiildgmaa
open Go.RowKit Go.IntWalk Go.Maps
namespace Go.Proofs.Ytbekihiiildgmaa
set_option linter.unusedVariables false
set_option linter.unusedSimpArgs false
set_option maxHeartbeats 1000000
set_option maxRecDepth 20000
end Go.Proofs.Ytbekihiiildgmaa
namespace Go.Proofs.Ytbekihiiildgmaa
set_option linter.unusedVariables false
set_option linter.unusedSimpArgs false
open Go.RowKit Go.Maps
set_option maxHeartbeats 400000
theorem Row.part {w : World} {V : Option Addr} {xs ys : List Value} (h : Row w V (xs ++ ys)) : Row w V xs := fun hn => by
  obtain ⟨b, o, hV, hc⟩ := h (by intro e; exact hn (List.append_eq_nil_iff.1 e).1)
  refine ⟨b, o, hV, fun j u hj => hc j u ?_⟩
  rw [List.getElem?_append_left (List.getElem?_eq_some_iff.1 hj).1]; exact hj
/-- a store in a box that may be written -/
structure HeldF (W : World) (bx : Nat) (A D : Option Addr) (c d : Nat) (s : St) : Prop where
  held : Held W bx A D 4 c 6 d s
  f0 : W.frozen? ⟨bx, 0, none⟩ = false
  f1 : W.frozen? ⟨bx, 1, none⟩ = false
theorem HeldF.below {W X : World} {bx c d B : Nat} {A D : Option Addr} {s : St} (h : HeldF W bx A D c d s) (hb : Below B W X) (hB : W.heap.size ≤ B) : HeldF X bx A D c d s :=
  ⟨h.held.below hb hB, (hb.frozen (p := ⟨bx, 0, none⟩) (Nat.lt_of_lt_of_le (lt_of_cell h.held.x0) hB)).trans h.f0, (hb.frozen (p := ⟨bx, 1, none⟩) (Nat.lt_of_lt_of_le (lt_of_cell h.held.x1) hB)).trans h.f1⟩
theorem HeldF.drew {W : World} {bx c d : Nat} {A D : Option Addr} {s : St} (h : HeldF W bx A D c d s) : HeldF W.drew bx A D c d s := ⟨h.held.drew, h.f0, h.f1⟩
theorem HeldF.new {w : World} {t : St} (ht : Okay t) {A D : Option Addr} (c d : Nat) (hF : Fl w A t.flash) (hD : Row w D (ints t.disk)) : HeldF (w.alloc (.cells #[.slice A 4 c, .slice D 6 d] 26)) w.heap.size A D c d t :=
  ⟨Held.ok ht c d hF hD, by simp, by simp⟩
theorem HeldF.put {W : World} {bx c d c' d' lo : Nat} {A D A' D' : Option Addr} {s t : St} (h : HeldF W bx A D c d s) (ht : Okay t) (hF : FlAt W lo A' t.flash) (hlo : bx < lo) (hD : Row W D' (ints t.disk)) (hd : ∀ b, blk D' b → lo ≤ b) :
    HeldF ((W.setCell ⟨bx, 0, none⟩ (.slice A' 4 c')).setCell ⟨bx, 1, none⟩ (.slice D' 6 d')) bx A' D' c' d' t := by
  have hW : Wrote W ((W.setCell ⟨bx, 0, none⟩ (.slice A' 4 c')).setCell ⟨bx, 1, none⟩ (.slice D' 6 d')) bx 0 [.slice A' 4 c', .slice D' 6 d'] := wrote_setRow bx [.slice A' 4 c', .slice D' 6 d'] 0 W (fun j hj => by
    match j, hj with
    | 0, _ => exact ⟨_, h.held.x0⟩
    | 1, _ => exact ⟨_, h.held.x1⟩)
  exact ⟨h.held.put (hF.mono (by omega)) hD (fun b hb => by have := hd b hb; omega) (flashOk_len ht.flash).symm ht.len.symm, (hW.frozen _).trans h.f0, (hW.frozen _).trans h.f1⟩
end Go.Proofs.Ytbekihiiildgmaa
namespace Go.Proofs.Ytbekihiiildgmaa
set_option linter.unusedVariables false
set_option linter.unusedSimpArgs false
open Go.RowKit Go.Maps
set_option maxHeartbeats 400000
/-- a row of steps handed back -/
def ListP (xs : List Sp) (w : World) (e : Ending) (w' : World) : Prop :=
  ∃ V cs, e = .returned (.slice V xs.length cs) ∧ Row w' V (sps xs) ∧ (∀ b, blk V b → w.heap.size ≤ b ∧ b < w'.heap.size) ∧ xs.length ≤ cs ∧ Below w.heap.size w w'
theorem StepsPost.list {xs ys : List Sp} {w w' : World} {e : Ending} (hx : xs = ys) (h : StepsPost w xs e w') : ListP ys w e w' := by
  subst hx
  obtain ⟨v, rfl, hO, hb⟩ := h
  obtain ⟨V, cs, rfl, hc, hR, hV⟩ := hO.shape'
  exact ⟨V, cs, rfl, hR, hV, hc, hb⟩
theorem Held.fine {w : World} {t : St} (ht : stFine t) {A D : Option Addr} (c d : Nat) (hF : Fl w A t.flash) (hD : Row w D (ints t.disk)) : Held (w.alloc (.cells #[.slice A 4 c, .slice D 6 d] 26)) w.heap.size A D 4 c 6 d t :=
  Held.new w hF hD ht.1.1.symm ht.2.1.symm
end Go.Proofs.Ytbekihiiildgmaa
namespace Go.Proofs.Ytbekihiiildgmaa
set_option linter.unusedVariables false
set_option linter.unusedSimpArgs false
open Go.RowKit Go.Maps
set_option maxHeartbeats 400000
end Go.Proofs.Ytbekihiiildgmaa
namespace Go.Proofs.Ytbekihiiildgmaa
set_option linter.unusedVariables false
set_option linter.unusedSimpArgs false
open Go.RowKit Go.Maps
set_option maxHeartbeats 4000000
set_option maxRecDepth 100000
end Go.Proofs.Ytbekihiiildgmaa
namespace Go.Proofs.Ytbekihiiildgmaa
set_option linter.unusedVariables false
set_option linter.unusedSimpArgs false
open Go.RowKit Go.Maps
set_option maxHeartbeats 400000
theorem ints_ne {xs : List Int} (h : xs ≠ []) : ints xs ≠ [] := by
  cases xs with
  | nil => exact absurd rfl h
  | cons p ps => simp [ints]
theorem laws_eqIntS (A A' : Option Addr) (c c' : Nat) (xs ys : List Int) (w : World) (hl : xs.length < 1000000000000) (hl' : ys.length < 1000000000000) (hR : Row w A (ints xs)) (hR' : Row w A' (ints ys)) :
    Calls Try.prog 101 #[.slice A xs.length c, .slice A' ys.length c'] w fun e w' => e = .returned (.bool (decide (xs = ys))) ∧ Below w.heap.size w w' := by
  by_cases hn : xs.length = ys.length
  · have HN := Lib.hid hn
    rw [← hn]
    clear hn hl'
    go_enter Try.func101, Try.ntmps101
    go_wp2
    go_loopw [5] (fun i wr => ∃ (k : Nat), k ≤ xs.length ∧ i = .int .i64 k ∧ Below w.heap.size w wr ∧ Hid (decide (xs = ys) = decide (xs.drop k = ys.drop k))) (fun i _ => xs.length - (intOf i).toNat)
    case atStart => exact ⟨0, by omega, rfl, Below.refl _ _, by simp [Hid]⟩
    case round =>
      obtain ⟨k, hk, rfl, hb, hg⟩ := hrel
      by_cases hlt : k < xs.length
      · obtain ⟨p, hp⟩ := get_some hlt
        obtain ⟨q, hq⟩ := get_some (l := ys) (k := k) (by have := HN.out; omega)
        have hd := Lib.hid (eq_drop hp hq)
        obtain ⟨b, o, rfl⟩ := hR.addr (ints_ne (by rintro rfl; simp at hlt))
        obtain ⟨b', o', rfl⟩ := hR'.addr (ints_ne (by rintro rfl; simp at hq))
        have hRk := hR.below hb (Nat.le_refl _)
        have hRk' := hR'.below hb (Nat.le_refl _)
        obtain ⟨c0, c1⟩ := hRk.int_ hp
        obtain ⟨d0, d1⟩ := hRk'.int_ hq
        have hk1 : (k : Int) < xs.length := by omega
        clear hp hq
        go_wp2
        go_region
        go_wp2
        · have hne : (!decide (p = q)) = true := by assumption
          have hne' : decide (p = q) = false := by simpa using hne
          go_ret
          exact ⟨ret_bool (by rw [hg.out, hd.out, hne']; rfl), hb.drew⟩
        · have heq : (!decide (p = q)) = false := by assumption
          have heq' : decide (p = q) = true := by simpa using heq
          go_roundw
          case rel => exact ⟨k + 1, by omega, by go_num, hb.drew, by rw [Hid, hg.out, hd.out, heq', Bool.true_and]⟩
          case measure => simp [intOf]; omega
      · obtain rfl : k = xs.length := by omega
        go_wp2
        go_ret
        exact ⟨ret_bool (by rw [hg.out, List.drop_of_length_le (Nat.le_refl _), List.drop_of_length_le (by have := HN.out; omega)]; rfl), hb⟩
  · have hne : ¬ xs = ys := fun e => hn (by rw [e])
    have hi : ¬ (xs.length : Int) = ys.length := by omega
    go_enter Try.func101, Try.ntmps101
    go_wp2
    all_goals go_ret
    all_goals exact ⟨ret_bool (by simp [hne]), Below.refl _ _⟩
def markIs : Int → List Int → List Int
  | _, [] => []
  | k, _ :: xs => k :: markIs (k + 1) xs
theorem markIs_len : ∀ (xs : List Int) (k : Int), (markIs k xs).length = xs.length
  | [], _ => rfl
  | _ :: xs, k => by simp [markIs, markIs_len xs]
theorem markIs_at : ∀ (xs : List Int) (k : Int) (j : Nat) , j < xs.length → (markIs k xs)[j]? = some (k + j)
  | [], _, _, h => by simp at h
  | q :: xs, k, 0, h => by simp [markIs]
  | q :: xs, k, j + 1, h => by
    rw [markIs, List.getElem?_cons_succ, markIs_at xs _ j (by simpa using h), show k + 1 + (j : Int) = k + ((j + 1 : Nat) : Int) by omega]
theorem markIs_step (xs : List Int) (k : Int) (j : Nat) (h : j < xs.length) : ((markIs k xs).take j ++ xs.drop j).set j (k + j) = (markIs k xs).take (j + 1) ++ xs.drop (j + 1) := by
  have hl := markIs_len xs k
  rw [List.set_append_right _ _ (by simp; omega), show j - ((markIs k xs).take j).length = 0 by simp; omega, List.drop_eq_getElem_cons h, List.set_cons_zero, List.take_add_one, markIs_at xs k j h]
  simp
theorem Row.setInt {w w' : World} {b o k : Nat} {xs : List Int} {x : Int} (h : Row w (some ⟨b, o, none⟩) (ints xs)) (hk : k < xs.length) (hw : Wrote w w' b (o + k) [.int .i64 x]) : Row w' (some ⟨b, o, none⟩) (ints (xs.set k x)) := by
  rw [ints_set]
  exact hw.row h (by rw [ints_len]; simp; omega)
theorem laws_markIntS (A : Option Addr) (n c : Nat) (xs : List Int) (k : Int) (w : World) (hn : n = xs.length) (hl : n < 1000000000000) (h0 : 0 ≤ k) (h1 : k < 1000000000000000) (hR : Row w A (ints xs)) :
    Calls Try.prog 104 #[.slice A n c, .int .i64 k] w fun e w' => e = .returned (.int .i64 (k + n)) ∧ Row w' A (ints (markIs k xs)) ∧ Agr (blk A) w w' := by
  have HN := Lib.hid hn
  clear hn
  go_enter Try.func104, Try.ntmps104
  go_wp2
  go_loopw [1, 5] (fun q i wr => ∃ (j : Nat), j ≤ n ∧ i = .int .i64 j ∧ q = .int .i64 (k + j) ∧ Row wr A (ints ((markIs k xs).take j ++ xs.drop j)) ∧ Agr (blk A) w wr) (fun _ i _ => n - (intOf i).toNat)
  case atStart => exact ⟨0, by omega, rfl, by simp, by simpa using hR, Agr.refl _ _⟩
  case round =>
    obtain ⟨j, hj, rfl, rfl, hr, hA⟩ := hrel
    have hml := Lib.hid (markIs_len xs k)
    by_cases hlt : j < n
    · have hlx := Lib.hid (show j < xs.length by have := HN.out; omega)
      obtain ⟨b, o, rfl⟩ := hR.addr (ints_ne (by rintro rfl; have := hlx.out; simp at this))
      obtain ⟨q, hq⟩ := get_some (l := (markIs k xs).take j ++ xs.drop j) (k := j) (by have := hml.out; have := hlx.out; simp; omega)
      obtain ⟨c0, f0⟩ := hr.int_ hq
      have hW := wrote_one c0 (.int .i64 (k + j))
      have hr2 := hr.setInt (k := j) (x := k + j) (by have := hml.out; have := hlx.out; simp; omega) hW
      rw [markIs_step xs k j hlx.out] at hr2
      have hA2 := hA.trans hW.agr (fun _ _ e => by rw [e]; exact blk_some.2 rfl)
      have hj1 : (j : Int) < n := by omega
      clear hW hq
      go_wp2
      go_roundw
      case rel => exact ⟨j + 1, by omega, by go_num, by congr 1; omega, hr2, hA2⟩
      case measure => simp [intOf]; omega
    · obtain rfl : j = n := by omega
      go_wp2
      go_ret
      rw [List.take_of_length_le (by rw [hml.out, HN.out]; exact Nat.le_refl _), List.drop_of_length_le (by rw [HN.out]; exact Nat.le_refl _), List.append_nil] at hr
      exact ⟨rfl, hr, hA⟩
theorem laws_heldIntS (A : Option Addr) (n c : Nat) (xs : List Int) (k : Int) (w : World) (hn : n = xs.length) (hl : n < 1000000000000) (h0 : 0 ≤ k) (h1 : k < 1000000000000000) (hR : Row w A (ints (markIs k xs))) :
    Calls Try.prog 106 #[.slice A n c, .int .i64 k] w fun e w' => e = .returned (.int .i64 (k + n)) ∧ w = w' := by
  have HN := Lib.hid hn
  clear hn
  go_enter Try.func106, Try.ntmps106
  go_wp2
  go_loop [1, 5] (fun q i => ∃ (j : Nat), j ≤ n ∧ i = .int .i64 j ∧ q = .int .i64 (k + j)) (fun _ i => n - (intOf i).toNat)
  case atStart => exact ⟨0, by omega, rfl, by simp⟩
  case round =>
    obtain ⟨j, hj, rfl, rfl⟩ := hrel
    by_cases hlt : j < n
    · have hq := markIs_at xs k j (by have := HN.out; omega)
      obtain ⟨b, o, rfl⟩ := hR.addr (ints_ne (by intro e; rw [e] at hq; simp at hq))
      obtain ⟨c0, f0⟩ := hR.int_ hq
      have hj1 : (j : Int) < n := by omega
      clear hq
      go_wp2
      go_round
      case rel => exact ⟨j + 1, by omega, by go_num, by congr 1; omega⟩
      case measure => simp [intOf]; omega
    · obtain rfl : j = n := by omega
      go_wp2
      go_ret
      exact ⟨rfl, rfl⟩
theorem Fl.drew {w : World} {A : Option Addr} {f : List Bk} (h : Fl w A f) : Fl w.drew A f := by obtain ⟨hs, h⟩ := h; exact ⟨hs, h.drew⟩
theorem laws_eqStore (A A' D D' : Option Addr) (n n' m m' c c' d d' : Nat) (f g : List Bk) (xs ys : List Int) (w : World) (hn : n = f.length) (hn' : n' = g.length) (hm : m = xs.length) (hm' : m' = ys.length) (hl : f.length < 1000000000000) (hl' : g.length < 1000000000000) (hp : ∀ b ∈ f, b.pages.length < 1000000000000) (hp' : ∀ b ∈ g, b.pages.length < 1000000000000)
    (hx : xs.length < 1000000000000) (hy : ys.length < 1000000000000) (hF : Fl w A f) (hF' : Fl w A' g) (hR : Row w D (ints xs)) (hR' : Row w D' (ints ys)) :
    Calls Try.prog 49 #[.agg #[.slice A n c, .slice D m d], .agg #[.slice A' n' c', .slice D' m' d']] w fun e w' => e = .returned (.bool (decide (f = g) && decide (xs = ys))) ∧ Below w.heap.size w w' := by
  subst hn; subst hn'; subst hm; subst hm'
  have HP := Lib.hid hp
  have HP' := Lib.hid hp'
  clear hp hp'
  go_enter Try.func49, Try.ntmps49
  go_wp2_with fail
  refine (laws_eqBlockS A A' c c' f g _ hl hl' HP.out HP'.out ((hF.alloc _).alloc _) ((hF'.alloc _).alloc _)).mono ?_
  rintro e w1 ⟨rfl, hb⟩
  obtain ⟨hc, hf⟩ := bcell hb
  have hz : w.heap.size + 1 + 1 ≤ w1.heap.size := by have := hb.size; simpa using this
  have hB : Below w.heap.size w w1 := Below.trans (by (repeat (first | (with_reducible exact Below.refl _ _) | (with_reducible assumption) | (refine Below.setCell ?_ (by first | omega | exact hB.size | exact hb.size | (have h := hB.size; simp; omega) | (have h := hb.size; simp; omega) | (simp; omega) | simp) _) | (refine Below.alloc ?_ (by first | omega | exact hB.size | exact hb.size | (have h := hB.size; simp; omega) | (have h := hb.size; simp; omega) | (simp; omega) | simp) _) | (refine Below.drew ?_)))) (hb.mono (by simp; omega))
  clear hb
  by_cases h1 : f = g
  · rw [show decide (f = g) = true from by simp [h1]]
    go_wp2_with fail
    refine (laws_eqIntS D D' d d' xs ys _ hx hy (hR.below hB (Nat.le_refl _)) (hR'.below hB (Nat.le_refl _))).mono ?_
    rintro e w2 ⟨rfl, hb2⟩
    by_cases h2 : xs = ys
    · rw [show decide (xs = ys) = true from by simp [h2]]
      go_wp2
      go_ret
      exact ⟨ret_bool (by simp [h1, h2]), hB.trans (hb2.mono (by omega))⟩
    · rw [show decide (xs = ys) = false from by simp [h2]]
      go_wp2
      go_ret
      exact ⟨ret_bool (by simp [h2]), hB.trans (hb2.mono (by omega))⟩
  · rw [show decide (f = g) = false from by simp [h1]]
    go_wp2
    go_ret
    exact ⟨ret_bool (by simp [h1]), hB⟩
theorem laws_markStore (A D : Option Addr) (n m c d : Nat) (f : List Bk) (xs : List Int) (k : Int) (lo hi : Nat) (w : World) (hn : n = f.length) (hm : m = xs.length) (hl : f.length < 1000000000000) (hp : ∀ b ∈ f, b.pages.length < 1000000000000) (hx : xs.length < 1000000000000) (h0 : 0 ≤ k) (h1 : endFl k f + m < 1000000000000000) (hlh : hi ≤ w.heap.size) (hO : OSt w lo hi A f D xs) :
    Calls Try.prog 51 #[.agg #[.slice A n c, .slice D m d], .int .i64 k] w fun e w' => e = .returned (.int .i64 (endFl k f + m)) ∧ OSt w' lo hi A (markFl k f) D (markIs (endFl k f) xs) ∧ Agr (fun b => lo ≤ b ∧ b < hi) w w' := by
  subst hn; subst hm
  have HP := Lib.hid hp
  have hO1 := hO.below (B := w.heap.size) ((Below.refl _ _).alloc (Nat.le_refl _) (.cells #[.slice A f.length c, .slice D xs.length d] 26)) (Nat.le_refl _)
  obtain ⟨hs, hBk, hApt, hR, hd⟩ := hO1
  have HD := Lib.hid hd
  have hge := endFl_ge f k
  clear hp hO hd
  go_enter Try.func51, Try.ntmps51
  go_wp2_with fail
  refine (laws_markBlockS' A _ c f hs k lo hi _ rfl hl HP.out h0 (by omega) hBk hApt).mono ?_
  rintro e w1 ⟨rfl, hBk1, hA1⟩
  have hAA : Agr (fun b => lo ≤ b ∧ b < hi) w w1 := ((Agr.refl _ w).alloc _).trans hA1 (fun b hl hS => by
    rcases hS with h | ⟨i, x, hx, h⟩
    · exact hApt.top b h
    · have := hApt.in_ i x b hx h; exact ⟨this.1, this.2.1⟩)
  have hcc : ∀ i, w1.cell? ⟨w.heap.size, i, none⟩ = (w.alloc (.cells #[.slice A f.length c, .slice D xs.length d] 26)).cell? ⟨w.heap.size, i, none⟩ := fun i => hA1.cell (by simp) (fun hS => by
    rcases hS with h | ⟨i, x, hx, h⟩
    · have := hApt.top _ h; omega
    · have := hApt.in_ i x _ hx h; omega) i
  have hc1 : w1.cell? ⟨w.heap.size, 1, none⟩ = some (.slice D xs.length d) := (hcc 1).trans (by simp)
  have hR1 := hR.agr hA1 (fun b hb hS => by
    rcases hS with h | ⟨i, x, hx, h⟩
    · exact (HD.out b hb).2.2.1 h
    · exact (HD.out b hb).2.2.2 i x hx h)
  have hg0 : 0 ≤ endFl k f := by omega
  clear hA1 hcc
  go_wp2_with fail
  refine (laws_markIntS D _ d xs _ _ rfl (by omega) (by omega) (by omega) hR1).mono ?_
  rintro e w2 ⟨rfl, hR2, hA2⟩
  go_wp2
  go_ret
  refine ⟨rfl, ⟨hs, hBk1.keep fun b hb hl => hA2.block b hl fun hd => ?_, hApt, hR2, HD.out⟩, hAA.trans hA2 fun b hl hd => ⟨(HD.out b hd).1, (HD.out b hd).2.1⟩⟩
  rcases hb with hb | ⟨x, hx, hb⟩
  · exact (HD.out b hd).2.2.1 hb
  · obtain ⟨i, hi'⟩ := List.getElem?_of_mem hx
    exact (HD.out b hd).2.2.2 i x hi' hb
theorem laws_heldStore (A D : Option Addr) (n m c d : Nat) (f : List Bk) (xs : List Int) (k : Int) (lo hi : Nat) (w : World) (hn : n = f.length) (hm : m = xs.length) (hl : f.length < 1000000000000) (hp : ∀ b ∈ f, b.pages.length < 1000000000000) (hx : xs.length < 1000000000000) (h0 : 0 ≤ k) (h1 : endFl k f + m < 1000000000000000) (hO : OSt w lo hi A (markFl k f) D (markIs (endFl k f) xs)) :
    Calls Try.prog 53 #[.agg #[.slice A n c, .slice D m d], .int .i64 k] w fun e w' => e = .returned (.int .i64 (endFl k f + m)) ∧ Below w.heap.size w w' := by
  subst hn; subst hm
  have HP := Lib.hid hp
  have hO1 := hO.below (B := w.heap.size) ((Below.refl _ _).alloc (Nat.le_refl _) (.cells #[.slice A f.length c, .slice D xs.length d] 26)) (Nat.le_refl _)
  have hge := endFl_ge f k
  clear hp hO
  go_enter Try.func53, Try.ntmps53
  go_wp2_with fail
  refine (laws_heldBlockS A _ c f k _ rfl (by omega) HP.out h0 (by omega) hO1.ofl.fl).mono ?_
  rintro e w1 ⟨rfl, rfl⟩
  have hg0 : 0 ≤ endFl k f := by omega
  go_wp2_with fail
  refine (laws_heldIntS D _ d xs _ _ rfl (by omega) (by omega) (by omega) hO1.disk).mono ?_
  rintro e w2 ⟨rfl, rfl⟩
  have hg1 : 0 ≤ endFl k f + xs.length := by omega
  go_wp2
  go_ret
  exact ⟨rfl, by (repeat (first | (with_reducible exact Below.refl _ _) | (with_reducible assumption) | (refine Below.setCell ?_ (by first | omega | exact hB.size | exact hb.size | (have h := hB.size; simp; omega) | (have h := hb.size; simp; omega) | (simp; omega) | simp) _) | (refine Below.alloc ?_ (by first | omega | exact hB.size | exact hb.size | (have h := hB.size; simp; omega) | (have h := hb.size; simp; omega) | (simp; omega) | simp) _) | (refine Below.drew ?_)))⟩
end Go.Proofs.Ytbekihiiildgmaa
namespace Go.Proofs.Ytbekihiiildgmaa
set_option linter.unusedVariables false
set_option linter.unusedSimpArgs false
open Go.RowKit Go.Maps
set_option maxHeartbeats 400000
theorem laws_toRec (r : Rc) (w : World) : Calls Try.prog 144 #[.agg #[.int .i64 r.kind, .int .i64 r.seq, .int .i64 r.addr, .int .i64 r.val]] w fun e w' => e = .returned (.agg #[.int .i64 r.kind, .int .i64 r.seq, .int .i64 r.addr, .int .i64 r.val]) ∧ Below w.heap.size w w' := by
  obtain ⟨k, q, a, v⟩ := r
  dsimp only
  go_enter Try.func144, Try.ntmps144
  go_wp2
  refine bodyPost_ret (v := .agg #[.int .i64 k, .int .i64 q, .int .i64 a, .int .i64 v]) (by simp [results, Try.results144, go_sem]) rfl ⟨rfl, ?_⟩
  (repeat (first | (with_reducible exact Below.refl _ _) | (with_reducible assumption) | (refine Below.setCell ?_ (by first | omega | exact hB.size | exact hb.size | (have h := hB.size; simp; omega) | (have h := hb.size; simp; omega) | (simp; omega) | simp) _) | (refine Below.alloc ?_ (by first | omega | exact hB.size | exact hb.size | (have h := hB.size; simp; omega) | (have h := hb.size; simp; omega) | (simp; omega) | simp) _) | (refine Below.drew ?_)))
theorem laws_toPage (p : Pg) (w : World) : Calls Try.prog 165 #[.agg #[.int .i64 p.state, .int .i64 p.rc.kind, .int .i64 p.rc.seq, .int .i64 p.rc.addr, .int .i64 p.rc.val]] w fun e w' => e = .returned (.agg #[.int .i64 p.state, .int .i64 p.rc.kind, .int .i64 p.rc.seq, .int .i64 p.rc.addr, .int .i64 p.rc.val]) ∧ Below w.heap.size w w' := by
  obtain ⟨st, ⟨k, q, a, v⟩⟩ := p
  dsimp only
  go_enter Try.func165, Try.ntmps165
  go_wp2_with fail
  refine (laws_toRec ⟨k, q, a, v⟩ _).mono ?_
  rintro e w1 ⟨rfl, hb⟩
  obtain ⟨hc, hf⟩ := bcell hb
  have hz : w.heap.size + 1 + 1 < w1.heap.size := by have := hb.size; simp at this; omega
  have hB : Below w.heap.size w w1 := Below.trans (by (repeat (first | (with_reducible exact Below.refl _ _) | (with_reducible assumption) | (refine Below.setCell ?_ (by first | omega | exact hB.size | exact hb.size | (have h := hB.size; simp; omega) | (have h := hb.size; simp; omega) | (simp; omega) | simp) _) | (refine Below.alloc ?_ (by first | omega | exact hB.size | exact hb.size | (have h := hB.size; simp; omega) | (have h := hb.size; simp; omega) | (simp; omega) | simp) _) | (refine Below.drew ?_)))) (hb.mono (by simp; omega))
  clear hb
  go_wp2
  refine bodyPost_ret (v := .agg #[.int .i64 st, .int .i64 k, .int .i64 q, .int .i64 a, .int .i64 v]) (by simp [results, Try.results165, go_sem, hc, hz]) rfl ⟨rfl, ?_⟩
  (repeat (first | (with_reducible exact Below.refl _ _) | (with_reducible assumption) | (refine Below.setCell ?_ (by first | omega | exact hB.size | exact hb.size | (have h := hB.size; simp; omega) | (have h := hb.size; simp; omega) | (simp; omega) | simp) _) | (refine Below.alloc ?_ (by first | omega | exact hB.size | exact hb.size | (have h := hB.size; simp; omega) | (have h := hb.size; simp; omega) | (simp; omega) | simp) _) | (refine Below.drew ?_)))
theorem laws_toPageS (A : Option Addr) (c : Nat) (ps : List Pg) (w : World) (hl : ps.length ≤ 1048576) (hR : RRow w A (pgs ps)) :
    Calls Try.prog 161 #[.slice A ps.length c] w fun e w' => ∃ g, e = .returned (.slice (some ⟨g, 0, none⟩) ps.length ps.length) ∧ w.heap.size ≤ g ∧ g < w'.heap.size ∧ Row w' (some ⟨g, 0, none⟩) (pgs ps) ∧ Below w.heap.size w w' := by
  obtain ⟨ip, hip, hpz0, hpz1, hpz2⟩ := info_parts Try.info3_page
  have hmk := fun W => run_make_n (P := Try.prog) 135 119 ip _ 5 40 Try.underlying135 hip hpz0 hpz1 hpz2 ps.length (by omega) (by omega) W
  have hnew : Row (w.alloc (.cells (madeCells #[.int .i64 0, .int .i64 0, .int .i64 0, .int .i64 0, .int .i64 0] (ps.length * 5)) 119)) (some ⟨w.heap.size, 0, none⟩) (pgs (List.replicate ps.length pg0)) := by
    have := Row.new w (madeCells #[.int .i64 0, .int .i64 0, .int .i64 0, .int .i64 0, .int .i64 0] (ps.length * 5)) 119
    rw [made_list Pg.vs pg0 #[.int .i64 0, .int .i64 0, .int .i64 0, .int .i64 0, .int .i64 0] 5 rfl rfl (by simp) ps.length] at this
    exact this
  have hB0 : Below w.heap.size w (w.alloc (.cells (madeCells #[.int .i64 0, .int .i64 0, .int .i64 0, .int .i64 0, .int .i64 0] (ps.length * 5)) 119)) := (Below.refl _ _).alloc (Nat.le_refl _) _
  have hmkw := hmk w
  have hsz : (w.alloc (.cells (madeCells #[.int .i64 0, .int .i64 0, .int .i64 0, .int .i64 0, .int .i64 0] (ps.length * 5)) 119)).heap.size = w.heap.size + 1 := by simp
  simp only [Value.cells] at hmkw
  generalize w.alloc (.cells (madeCells #[.int .i64 0, .int .i64 0, .int .i64 0, .int .i64 0, .int .i64 0] (ps.length * 5)) 119) = W at *
  have hszW : w.heap.size < W.heap.size := by omega
  clear hmk hsz
  go_enter Try.func161, Try.ntmps161
  go_wp2
  go_loopw [4] (fun i wr => ∃ k : Nat, k ≤ ps.length ∧ i = .int .i64 k ∧ Below w.heap.size w wr ∧ w.heap.size < wr.heap.size ∧ Row wr (some ⟨w.heap.size, 0, none⟩) (pgs (ps.take k ++ (List.replicate ps.length pg0).drop k))) (fun i _ => ps.length - (intOf i).toNat)
  case atStart => exact ⟨0, by omega, rfl, hB0, hszW, by simpa using hnew⟩
  case round =>
    clear hnew hB0 hszW hmkw
    obtain ⟨k, hk, rfl, hb, hsz, hr⟩ := hrel
    by_cases hlt : k < ps.length
    · obtain ⟨p, hp⟩ := get_some hlt
      obtain ⟨b, o, rfl⟩ := hR.addr (pgs_ne (by rintro rfl; simp at hlt))
      obtain ⟨c0, c1, c2, c3, c4⟩ := (hR.below hb (Nat.le_refl _)).pg hp
      have hget : (ps.take k ++ (List.replicate ps.length pg0).drop k)[k]? = some pg0 := by
        rw [List.getElem?_append_right (by simp; omega), List.getElem?_drop, List.getElem?_replicate, if_pos (by simp; omega)]
      have hk1 : (k : Int) < ps.length := by omega
      have HP := Lib.hid hp
      have HG := Lib.hid hget
      clear hp hget
      go_wp2_with fail
      refine (laws_toPage p _).mono ?_
      rintro e w1 ⟨rfl, hb1⟩
      have hr1 := hr.below hb1 (Nat.le_refl _)
      obtain ⟨d0, d1, d2, d3, d4⟩ := hr1.pg HG.out
      obtain ⟨f0, f1, f2, f3, f4⟩ := hr1.pgf HG.out
      have hWp := wrote_page hr1 HG.out p
      have hr2 := hr1.setPage (k := k) (by simp; omega) hWp
      rw [copy_step pg0 ps ps.length k p HP.out rfl] at hr2
      have hB1 := hb.trans (hb1.mono hb.size)
      have hB2 := hB1.trans (hWp.agr.below (B := w.heap.size) hB1.size (fun i e => by rw [e]; exact Nat.le_refl _))
      have hs1 := hb1.size
      have HS := Lib.hid hWp.size
      have hs2 : w.heap.size < w1.heap.size := by omega
      simp only [Nat.zero_add] at d0 d1 d2 d3 d4 f0 f1 f2 f3 f4 hr2 hB2 HS
      clear hWp hr1 hb1 c0 c1 c2 c3 c4
      go_wp2
      go_roundw
      case rel => exact ⟨k + 1, by omega, by go_num, hB2, by rw [HS.out]; exact hs2, hr2⟩
      case measure => simp [intOf]; omega
    · obtain rfl : k = ps.length := by omega
      go_wp2
      go_ret
      refine ⟨w.heap.size, rfl, Nat.le_refl _, hsz, ?_, hb⟩
      rw [List.take_of_length_le (Nat.le_refl _), List.drop_of_length_le (by simp), List.append_nil] at hr
      exact hr
end Go.Proofs.Ytbekihiiildgmaa
namespace Go.Proofs.Ytbekihiiildgmaa
set_option linter.unusedVariables false
set_option linter.unusedSimpArgs false
open Go.RowKit Go.Maps
set_option maxHeartbeats 400000
theorem laws_toBlock (A : Option Addr) (c : Nat) (b : Bk) (w : World) (hl : b.pages.length ≤ 1048576) (hR : RRow w A (pgs b.pages)) :
    Calls Try.prog 143 #[.agg #[.slice A b.pages.length c, .int .i64 b.worn]] w fun e w' => ∃ g, e = .returned (.agg #[.slice (some ⟨g, 0, none⟩) b.pages.length b.pages.length, .int .i64 b.worn]) ∧ w.heap.size ≤ g ∧ g < w'.heap.size ∧ Row w' (some ⟨g, 0, none⟩) (pgs b.pages) ∧ Below w.heap.size w w' := by
  obtain ⟨ps, n⟩ := b
  dsimp only at *
  go_enter Try.func143, Try.ntmps143
  go_wp2_with fail
  refine (laws_toPageS A c ps _ hl (((hR.alloc _).alloc _).alloc _)).mono ?_
  rintro e w1 ⟨g, rfl, h1, h2, h3, hb⟩
  obtain ⟨hc, hf⟩ := bcell hb
  have hz : w.heap.size + 1 + 1 < w1.heap.size := by have := hb.size; simp at this; omega
  have hB : Below w.heap.size w w1 := Below.trans (by (repeat (first | (with_reducible exact Below.refl _ _) | (with_reducible assumption) | (refine Below.setCell ?_ (by first | omega | exact hB.size | exact hb.size | (have h := hB.size; simp; omega) | (have h := hb.size; simp; omega) | (simp; omega) | simp) _) | (refine Below.alloc ?_ (by first | omega | exact hB.size | exact hb.size | (have h := hB.size; simp; omega) | (have h := hb.size; simp; omega) | (simp; omega) | simp) _) | (refine Below.drew ?_)))) (hb.mono (by simp; omega))
  simp only [World.size_alloc] at h1
  clear hb
  go_wp2
  refine bodyPost_ret (v := .agg #[.slice (some ⟨g, 0, none⟩) ps.length ps.length, .int .i64 n]) (by simp [results, Try.results143, go_sem, hc, hz]) rfl ⟨g, rfl, by omega, by simpa using h2, ?_, ?_⟩
  · refine h3.keep fun d hd hl => ?_
    rw [blk_some] at hd
    subst hd
    repeat (first | rfl | (refine (Below.heap_setCell _ _ _ _ (by simp; omega)).trans ?_))
  · (repeat (first | (with_reducible exact Below.refl _ _) | (with_reducible assumption) | (refine Below.setCell ?_ (by first | omega | exact hB.size | exact hb.size | (have h := hB.size; simp; omega) | (have h := hb.size; simp; omega) | (simp; omega) | simp) _) | (refine Below.alloc ?_ (by first | omega | exact hB.size | exact hb.size | (have h := hB.size; simp; omega) | (have h := hb.size; simp; omega) | (simp; omega) | simp) _) | (refine Below.drew ?_)))
set_option maxHeartbeats 1000000 in
theorem laws_toBlockS (A : Option Addr) (c : Nat) (f : List Bk) (hs : List (Option Addr × Nat)) (w : World) (hl : f.length ≤ 1048576) (hp : ∀ b ∈ f, b.pages.length ≤ 1048576) (hF : RBks w A f hs) :
    Calls Try.prog 97 #[.slice A f.length c] w fun e w' => ∃ g, e = .returned (.slice (some ⟨g, 0, none⟩) f.length f.length) ∧ OFl w' w.heap.size w'.heap.size (some ⟨g, 0, none⟩) f ∧ Below w.heap.size w w' := by
  obtain ⟨ib, hib, hbz0, hbz1, hbz2⟩ := info_parts Try.info3_block
  have hmk := fun W => run_make_n (P := Try.prog) 23 137 ib _ 2 32 Try.underlying23 hib hbz0 hbz1 hbz2 f.length (by omega) (by omega) W
  have hnew : Bks (w.alloc (.cells (madeCells #[.slice none 0 0, .int .i64 0] (f.length * 2)) 137)) (some ⟨w.heap.size, 0, none⟩) (List.replicate f.length zbk) (List.replicate f.length (none, 0)) := by
    refine Bks.new w f.length _ _ ?_
    rw [made_list (fun _ : Unit => [Value.slice none 0 0, .int .i64 0]) () #[.slice none 0 0, .int .i64 0] 2 rfl rfl (by simp) f.length, hdrs_rep]
  have hB0 : Below w.heap.size w (w.alloc (.cells (madeCells #[.slice none 0 0, .int .i64 0] (f.length * 2)) 137)) := (Below.refl _ _).alloc (Nat.le_refl _) _
  have hmkw := hmk w
  have hsz : (w.alloc (.cells (madeCells #[.slice none 0 0, .int .i64 0] (f.length * 2)) 137)).heap.size = w.heap.size + 1 := by simp
  simp only [Value.cells] at hmkw
  generalize w.alloc (.cells (madeCells #[.slice none 0 0, .int .i64 0] (f.length * 2)) 137) = W at *
  have hszW : w.heap.size < W.heap.size := by omega
  have hA0 : Apt w.heap.size W.heap.size (some ⟨w.heap.size, 0, none⟩) (List.replicate f.length ((none : Option Addr), 0)) := (Apt.new _ _).mono (Nat.le_refl _) (by omega)
  have HP := Lib.hid hp
  clear hmk hsz hp
  go_enter Try.func97, Try.ntmps97
  go_wp2
  go_loopw [4] (fun i wr => ∃ (k : Nat) (ks : List (Option Addr × Nat)), k ≤ f.length ∧ i = .int .i64 k ∧ Below w.heap.size w wr ∧ w.heap.size < wr.heap.size ∧ Bks wr (some ⟨w.heap.size, 0, none⟩) (f.take k ++ (List.replicate f.length zbk).drop k) ks ∧ Apt w.heap.size wr.heap.size (some ⟨w.heap.size, 0, none⟩) ks) (fun i _ => f.length - (intOf i).toNat)
  case atStart => exact ⟨0, _, by omega, rfl, hB0, hszW, by simpa using hnew, hA0⟩
  case round =>
    clear hnew hB0 hszW hmkw hA0
    obtain ⟨k, ks, hk, rfl, hb, hsz, hBk, hApt⟩ := hrel
    by_cases hlt : k < f.length
    · obtain ⟨B, hB⟩ := get_some hlt
      have hBl := HP.out B (List.mem_of_getElem? hB)
      obtain ⟨bk, off, rfl⟩ := hF.addr (by rintro rfl; simp at hlt)
      obtain ⟨⟨Ap, cp⟩, _, c0, c1, hRp⟩ := (hF.below hb (Nat.le_refl _)).at_ hB
      have hget : (f.take k ++ (List.replicate f.length zbk).drop k)[k]? = some zbk := by
        rw [List.getElem?_append_right (by simp; omega), List.getElem?_drop, List.getElem?_replicate, if_pos (by simp; omega)]
      have hk1 : (k : Int) < f.length := by omega
      have HBB := Lib.hid hB
      have HG := Lib.hid hget
      obtain ⟨Ps, wn⟩ := B
      dsimp only at *
      clear hB hget
      go_wp2_with fail
      refine (laws_toBlock Ap cp ⟨Ps, wn⟩ _ hBl hRp).mono ?_
      rintro e w1 ⟨b, rfl, h1, h2, h3, h4⟩
      have hBk1 := hBk.below h4 (Nat.le_refl _)
      obtain ⟨_, _, z0, z1, z2, z3, _, _⟩ := hBk1.at_ HG.out
      have hW := wrote_hdr hBk1 HG.out (.slice (some ⟨b, 0, none⟩) Ps.length Ps.length) (.int .i64 wn)
      obtain ⟨hO, hb5⟩ : _ ∧ _ := ⟨hBk1.setBlock (i := k) (x := (some ⟨b, 0, none⟩, Ps.length)) (c := ⟨Ps, wn⟩) (by simp; omega) (fun j y hy e => (hApt.in_ j y _ hy e).2.2 rfl) (by rw [blk_some]; omega) h3 (Nat.le_refl _) hW, hW.agr⟩
      rw [copy_step zbk f f.length k _ HBB.out rfl] at hO
      have hApt2 := hApt.set (hi' := w1.heap.size) k (some ⟨b, 0, none⟩, Ps.length) (fun d hd => by rw [blk_some] at hd; subst hd; exact ⟨by omega, h2⟩) (by omega) (by omega)
      have hB2 : Below w.heap.size w w1 := hb.trans (h4.mono hb.size)
      have hB3 := hB2.trans (hb5.below (B := w.heap.size) hB2.size (fun i e => by rw [e]; exact Nat.le_refl _))
      have hs4 : w.heap.size < w1.heap.size := by omega
      have HS3 := Lib.hid hW.size
      simp only [Nat.zero_add] at z0 z1 z2 z3 hO hB3 HS3
      clear hW hB2 hBk1 hb5 hBk h4 c0 c1
      go_wp2
      go_roundw
      case rel => exact ⟨k + 1, _, by omega, by go_num, hB3, by rw [HS3.out]; exact hs4, hO, by rw [HS3.out]; exact hApt2⟩
      case measure => simp [intOf]; omega
    · obtain rfl : k = f.length := by omega
      go_wp2
      go_ret
      rw [List.take_of_length_le (Nat.le_refl _), List.drop_of_length_le (by simp), List.append_nil] at hBk
      exact ⟨w.heap.size, rfl, ⟨ks, hBk, hApt⟩, hb⟩

/-- a count goes down, -1 if below nought -/
def down (left : Int) (n : Nat) : Int := if left - n < 0 then -1 else left - n
def szGo : Int → List Bk → Int
  | left, [] => left
  | left, b :: f => if down left b.pages.length < 0 then -1 else szGo (down left b.pages.length) f
def szFl (left : Int) (f : List Bk) : Int := if left - f.length < 0 then -1 else szGo (left - f.length) f
theorem szGo_small : ∀ (f : List Bk) (left : Int), 0 ≤ szGo left f → left ≤ 1048576 → ∀ b ∈ f, b.pages.length ≤ 1048576
  | [], _, _, _ => by simp
  | b :: f, left, h, hl => by
    unfold szGo at h
    by_cases h1 : down left b.pages.length < 0
    · rw [if_pos h1] at h; omega
    · rw [if_neg h1] at h
      have hd : down left b.pages.length = left - b.pages.length := by
        unfold down at h1 ⊢
        by_cases h2 : left - (b.pages.length : Int) < 0
        · rw [if_pos h2] at h1; omega
        · rw [if_neg h2]
      have ih := szGo_small f _ h (by omega)
      intro c hc
      rcases List.mem_cons.1 hc with rfl | hc
      · omega
      · exact ih c hc
theorem szFl_small {f : List Bk} (h : 0 ≤ szFl 1048576 f) : f.length ≤ 1048576 ∧ ∀ b ∈ f, b.pages.length ≤ 1048576 := by
  unfold szFl at h
  by_cases h0 : (1048576 : Int) - f.length < 0
  · rw [if_pos h0] at h; omega
  · rw [if_neg h0] at h
    exact ⟨by omega, szGo_small f _ h (by omega)⟩
theorem laws_szPageS (A : Option Addr) (n c : Nat) (left : Int) (w : World) (h1 : -1 ≤ left) (h2 : left ≤ 1048576) (hn : n ≤ 9223372036854775807) :
    Calls Try.prog 160 #[.slice A n c, .int .i64 left] w fun e w' => e = .returned (.int .i64 (down left n)) ∧ w = w' := by
  go_enter Try.func160, Try.ntmps160
  go_wp2
  all_goals (go_ret; exact ⟨ret_int (by unfold down; first | rw [if_pos (by omega)] | rw [if_neg (by omega)]), rfl⟩)
theorem laws_szBlock (A : Option Addr) (n c : Nat) (worn left : Int) (w : World) (h1 : -1 ≤ left) (h2 : left ≤ 1048576) (hn : n ≤ 9223372036854775807) :
    Calls Try.prog 142 #[.agg #[.slice A n c, .int .i64 worn], .int .i64 left] w fun e w' => e = .returned (.int .i64 (down left n)) ∧ Below w.heap.size w w' := by
  have hd : -1 ≤ down left n := by unfold down; split <;> omega
  go_enter Try.func142, Try.ntmps142
  go_wp2_with (go_at_call 160; refine (laws_szPageS A n c left _ h1 h2 hn).mono ?_; rintro e w1 ⟨rfl, rfl⟩)
  all_goals (go_ret; exact ⟨ret_int (by omega), (Below.refl _ _).alloc (Nat.le_refl _) _⟩)
theorem laws_szBlockS (A : Option Addr) (c : Nat) (f : List Bk) (hs : List (Option Addr × Nat)) (left : Int) (w : World) (h1 : 0 ≤ left) (h2 : left ≤ 1048576) (hn : f.length ≤ 9223372036854775807) (hp : ∀ b ∈ f, b.pages.length ≤ 9223372036854775807) (hF : RBks w A f hs) :
    Calls Try.prog 95 #[.slice A f.length c, .int .i64 left] w fun e w' => e = .returned (.int .i64 (szFl left f)) ∧ Below w.heap.size w w' := by
  have HP := Lib.hid hp
  clear hp
  by_cases h0 : left - f.length < 0
  · have hfin : Hid (szFl left f = -1) := by unfold Hid szFl; rw [if_pos h0]
    go_enter Try.func95, Try.ntmps95
    go_wp2
    go_ret
    exact ⟨ret_int hfin.out.symm, Below.refl _ _⟩
  · have hfin : Hid (szFl left f = szGo (left - f.length) f) := by unfold Hid szFl; rw [if_neg h0]
    go_enter Try.func95, Try.ntmps95
    go_wp2
    go_loopw [1, 5] (fun l i wr => ∃ (k : Nat) (m : Int), k ≤ f.length ∧ i = .int .i64 k ∧ l = .int .i64 m ∧ 0 ≤ m ∧ m ≤ 1048576 ∧ Below w.heap.size w wr ∧ Hid (szFl left f = szGo m (f.drop k))) (fun _ i _ => f.length - (intOf i).toNat)
    case atStart => exact ⟨0, _, by omega, rfl, rfl, by omega, by omega, Below.refl _ _, hfin.out⟩
    case round =>
      obtain ⟨k, m, hk, rfl, rfl, hm0, hm1, hb, hg⟩ := hrel
      by_cases hlt : k < f.length
      · obtain ⟨B, hB⟩ := get_some hlt
        have hBl := HP.out B (List.mem_of_getElem? hB)
        obtain ⟨bk, off, rfl⟩ := hF.addr (by rintro rfl; simp at hlt)
        obtain ⟨⟨Ap, cp⟩, _, c0, c1, _⟩ := (hF.below hb (Nat.le_refl _)).at_ hB
        have hd := Lib.hid (drop_cons hB)
        have hk1 : (k : Int) < f.length := by omega
        obtain ⟨Ps, wn⟩ := B
        dsimp only at *
        clear hB
        have hd1 : down m Ps.length ≤ 1048576 := by unfold down; split <;> omega
        go_wp2_with fail
        refine (laws_szBlock Ap Ps.length cp wn m _ (by omega) (by omega) hBl).mono ?_
        rintro e w1 ⟨rfl, hb1⟩
        have hB1 := hb.trans (hb1.mono hb.size)
        by_cases hn : down m Ps.length < 0
        · have hstep : Hid (szFl left f = -1) := by rw [Hid, hg.out, hd.out, szGo, if_pos hn]
          clear hg hd
          go_wp2
          go_ret
          exact ⟨ret_int hstep.out.symm, hB1⟩
        · have hstep : Hid (szFl left f = szGo (down m Ps.length) (f.drop (k + 1))) := by rw [Hid, hg.out, hd.out, szGo, if_neg hn]
          clear hg hd
          go_wp2
          go_roundw
          case rel => exact ⟨k + 1, _, by omega, by go_num, rfl, by omega, hd1, hB1, hstep⟩
          case measure => simp [intOf]; omega
      · obtain rfl : k = f.length := by omega
        go_wp2
        go_ret
        exact ⟨ret_int (by rw [hg.out, List.drop_of_length_le (Nat.le_refl _)]; rfl), hb⟩
end Go.Proofs.Ytbekihiiildgmaa
namespace Go.Proofs.Ytbekihiiildgmaa
set_option linter.unusedVariables false
set_option linter.unusedSimpArgs false
open Go.RowKit Go.Maps
set_option maxHeartbeats 400000
/-- no more blocks than may be, and no more pages in one -/
def Small (f : List Bk) : Prop := f.length ≤ 1048576 ∧ ∀ b ∈ f, b.pages.length ≤ 1048576
theorem Small.len {f : List Bk} (h : Small f) : f.length < 1000000000000 := by have := h.1; omega
theorem Small.pages {f : List Bk} (h : Small f) : ∀ b ∈ f, b.pages.length < 1000000000000 := fun b hb => by have := h.2 b hb; omega
theorem Small.end {f : List Bk} (h : Small f) : endFl 1 f < 1000000000000000 := by
  have h1 := endFl_le 1048576 f 1 (fun b hb => by have := h.2 b hb; omega)
  have h2 := h.1
  omega
end Go.Proofs.Ytbekihiiildgmaa
namespace Go.Proofs.Ytbekihiiildgmaa
set_option linter.unusedVariables false
set_option linter.unusedSimpArgs false
open Go.RowKit Go.Maps
set_option maxHeartbeats 4000000
set_option maxRecDepth 20000
theorem sps_set : ∀ (ps : List Sp) (k : Nat) (p : Sp), k < ps.length → sps (ps.set k p) = setL (sps ps) (k * 8) p.vs
  | [], _, _, h => by simp at h
  | q :: ps, 0, p, _ => by simp [sps, Sp.vs, setL]
  | q :: ps, k + 1, p, h => by
    have := sps_set ps k p (by simpa using h)
    simp only [List.set_cons_succ]
    show q.vs ++ sps (ps.set k p) = setL (q.vs ++ sps ps) ((k + 1) * 8) p.vs
    rw [this, show (k + 1) * 8 = q.vs.length + k * 8 by simp [Sp.vs]; omega, setL_right]
theorem sps_ne' {ps : List Sp} (h : ps ≠ []) : sps ps ≠ [] := by
  intro e
  have := sps_len ps
  rw [e] at this
  cases ps with
  | nil => exact h rfl
  | cons p ps => simp at this
theorem Row.spf {w : World} {b o k : Nat} {ps : List Sp} {p : Sp} (h : Row w (some ⟨b, o, none⟩) (sps ps)) (hk : ps[k]? = some p) :
    w.frozen? ⟨b, o + k * 8, none⟩ = false ∧ w.frozen? ⟨b, o + k * 8 + 1, none⟩ = false ∧ w.frozen? ⟨b, o + k * 8 + 2, none⟩ = false ∧ w.frozen? ⟨b, o + k * 8 + 3, none⟩ = false ∧
      w.frozen? ⟨b, o + k * 8 + 4, none⟩ = false ∧ w.frozen? ⟨b, o + k * 8 + 5, none⟩ = false ∧ w.frozen? ⟨b, o + k * 8 + 6, none⟩ = false ∧ w.frozen? ⟨b, o + k * 8 + 7, none⟩ = false := by
  have hlt := (List.getElem?_eq_some_iff.1 hk).1
  obtain ⟨b', o', he, hc⟩ := h (by intro e; have := sps_len ps; rw [e] at this; simp at this; omega)
  cases he
  have hg : ∀ j u, p.vs[j]? = some u → j < 8 → w.frozen? ⟨b, o + (k * 8 + j), none⟩ = false := fun j u hj hl => (hc (k * 8 + j) u (by rw [sps, flat_get _ 8 (fun _ => rfl) ps k j p hk hl]; exact hj)).2
  exact ⟨hg 0 _ rfl (by omega), hg 1 _ rfl (by omega), hg 2 _ rfl (by omega), hg 3 _ rfl (by omega), hg 4 _ rfl (by omega), hg 5 _ rfl (by omega), hg 6 _ rfl (by omega), hg 7 _ rfl (by omega)⟩
theorem wrote_sp {w : World} {b o k : Nat} {ps : List Sp} {q : Sp} (h : Row w (some ⟨b, o, none⟩) (sps ps)) (hk : ps[k]? = some q) (p : Sp) :
    Wrote w ((((((((w.setCell ⟨b, o + k * 8, none⟩ (.int .i64 p.kind)).setCell ⟨b, o + k * 8 + 1, none⟩ (.int .i64 p.addr)).setCell ⟨b, o + k * 8 + 2, none⟩ (.int .i64 p.val)).setCell ⟨b, o + k * 8 + 3, none⟩ (.int .i64 p.block)).setCell ⟨b, o + k * 8 + 4, none⟩ (.int .i64 p.rc.kind)).setCell ⟨b, o + k * 8 + 5, none⟩ (.int .i64 p.rc.seq)).setCell ⟨b, o + k * 8 + 6, none⟩ (.int .i64 p.rc.addr)).setCell ⟨b, o + k * 8 + 7, none⟩ (.int .i64 p.rc.val)) b (o + k * 8) p.vs := by
  refine wrote_setRow b p.vs (o + k * 8) w fun j hj => ?_
  obtain ⟨c0, c1, c2, c3, c4, c5, c6, c7⟩ := h.sp hk
  match j, hj with
  | 0, _ => exact ⟨_, c0⟩
  | 1, _ => exact ⟨_, c1⟩
  | 2, _ => exact ⟨_, c2⟩
  | 3, _ => exact ⟨_, c3⟩
  | 4, _ => exact ⟨_, c4⟩
  | 5, _ => exact ⟨_, c5⟩
  | 6, _ => exact ⟨_, c6⟩
  | 7, _ => exact ⟨_, c7⟩
theorem Row.setSp {w w' : World} {b o k : Nat} {ps : List Sp} {p : Sp} (h : Row w (some ⟨b, o, none⟩) (sps ps)) (hk : k < ps.length) (hw : Wrote w w' b (o + k * 8) p.vs) : Row w' (some ⟨b, o, none⟩) (sps (ps.set k p)) := by
  rw [sps_set ps k p hk]
  exact hw.row h (by rw [sps_len]; simp [Sp.vs]; omega)
def mkSp (k : Int) : Sp := ⟨k, k + 1, k + 1 + 1, k + 1 + 1 + 1, ⟨k + 1 + 1 + 1 + 1, k + 1 + 1 + 1 + 1 + 1, k + 1 + 1 + 1 + 1 + 1 + 1, k + 1 + 1 + 1 + 1 + 1 + 1 + 1⟩⟩
def markSs : Int → List Sp → List Sp
  | _, [] => []
  | k, _ :: ss => mkSp k :: markSs (k + 8) ss
theorem markSs_len : ∀ (ss : List Sp) (k : Int), (markSs k ss).length = ss.length
  | [], _ => rfl
  | _ :: ss, k => by simp [markSs, markSs_len ss]
theorem markSs_at : ∀ (ss : List Sp) (k : Int) (j : Nat), j < ss.length → (markSs k ss)[j]? = some (mkSp (k + 8 * j))
  | [], _, _, h => by simp at h
  | q :: ss, k, 0, _ => by simp [markSs]
  | q :: ss, k, j + 1, h => by
    rw [markSs, List.getElem?_cons_succ, markSs_at ss _ j (by simpa using h), show k + 8 + 8 * (j : Int) = k + 8 * ((j + 1 : Nat) : Int) by omega]
theorem markSs_step (ss : List Sp) (k : Int) (j : Nat) (h : j < ss.length) : ((markSs k ss).take j ++ ss.drop j).set j (mkSp (k + 8 * j)) = (markSs k ss).take (j + 1) ++ ss.drop (j + 1) := by
  have hl := markSs_len ss k
  rw [List.set_append_right _ _ (by simp; omega), show j - ((markSs k ss).take j).length = 0 by simp; omega, List.drop_eq_getElem_cons h, List.set_cons_zero, List.take_add_one, markSs_at ss k j h]
  simp
theorem laws_markStepS (A : Option Addr) (n c : Nat) (ss : List Sp) (k : Int) (w : World) (hn : n = ss.length) (hl : n < 1000000000000) (h0 : 0 ≤ k) (h1 : k < 1000000000000000) (hR : Row w A (sps ss)) :
    Calls Try.prog 52 #[.slice A n c, .int .i64 k] w fun e w' => e = .returned (.int .i64 (k + 8 * n)) ∧ Row w' A (sps (markSs k ss)) ∧ Agr (blk A) w w' := by
  have HN := Lib.hid hn
  clear hn
  go_enter Try.func52, Try.ntmps52
  go_wp2
  go_loopw [1, 5] (fun q i wr => ∃ (j : Nat), j ≤ n ∧ i = .int .i64 j ∧ q = .int .i64 (k + 8 * j) ∧ Row wr A (sps ((markSs k ss).take j ++ ss.drop j)) ∧ Agr (blk A) w wr) (fun _ i _ => n - (intOf i).toNat)
  case atStart => exact ⟨0, by omega, rfl, by simp, by simpa using hR, Agr.refl _ _⟩
  case round =>
    obtain ⟨j, hj, rfl, rfl, hr, hA⟩ := hrel
    have hml := Lib.hid (markSs_len ss k)
    by_cases hlt : j < n
    · have hlx := Lib.hid (show j < ss.length by have := HN.out; omega)
      obtain ⟨b, o, rfl⟩ := hR.addr (sps_ne' (by rintro rfl; have := hlx.out; simp at this))
      obtain ⟨q, hq⟩ := get_some (l := (markSs k ss).take j ++ ss.drop j) (k := j) (by have := hml.out; have := hlx.out; simp; omega)
      obtain ⟨c0, c1, c2, c3, c4, c5, c6, c7⟩ := hr.sp hq
      obtain ⟨f0, f1, f2, f3, f4, f5, f6, f7⟩ := hr.spf hq
      have hW := wrote_sp hr hq (mkSp (k + 8 * j))
      have hr2 := hr.setSp (k := j) (by have := hml.out; have := hlx.out; simp; omega) hW
      rw [markSs_step ss k j hlx.out] at hr2
      have hA2 := hA.trans hW.agr (fun _ _ e => by rw [e]; exact blk_some.2 rfl)
      unfold mkSp at hr2 hA2
      dsimp only at hr2 hA2
      have hj1 : (j : Int) < n := by omega
      clear hW hq
      go_wp2
      go_roundw
      case rel => exact ⟨j + 1, by omega, by go_num, by congr 1; omega, hr2, hA2⟩
      case measure => simp [intOf]; omega
    · obtain rfl : j = n := by omega
      go_wp2
      go_ret
      rw [List.take_of_length_le (by rw [hml.out, HN.out]; exact Nat.le_refl _), List.drop_of_length_le (by rw [HN.out]; exact Nat.le_refl _), List.append_nil] at hr
      exact ⟨rfl, hr, hA⟩
end Go.Proofs.Ytbekihiiildgmaa
namespace Go.Proofs.Ytbekihiiildgmaa
set_option linter.unusedVariables false
set_option linter.unusedSimpArgs false
open Go.RowKit Go.Maps
set_option maxHeartbeats 4000000
set_option maxRecDepth 20000
theorem laws_eqStep (p q : Sp) (w : World) : Calls Try.prog 102 #[.agg #[.int .i64 p.kind, .int .i64 p.addr, .int .i64 p.val, .int .i64 p.block, .int .i64 p.rc.kind, .int .i64 p.rc.seq, .int .i64 p.rc.addr, .int .i64 p.rc.val], .agg #[.int .i64 q.kind, .int .i64 q.addr, .int .i64 q.val, .int .i64 q.block, .int .i64 q.rc.kind, .int .i64 q.rc.seq, .int .i64 q.rc.addr, .int .i64 q.rc.val]] w
    fun e w' => e = .returned (.bool (decide (p = q))) ∧ Below w.heap.size w w' := by
  obtain ⟨k, a, v, b, r⟩ := p
  obtain ⟨k', a', v', b', s⟩ := q
  dsimp only
  by_cases hk : k = k' ∧ a = a' ∧ v = v' ∧ b = b'
  · obtain ⟨rfl, rfl, rfl, rfl⟩ := hk
    have hq : Hid (decide ((⟨k, a, v, b, r⟩ : Sp) = ⟨k, a, v, b, s⟩) = decide (r = s)) := by unfold Hid; simp
    go_enter Try.func102, Try.ntmps102
    go_wp2_with (go_at_call 146; refine (laws_eqRec r s _).mono ?_; rintro e w1 ⟨rfl, hb⟩)
    all_goals (go_ret; exact ⟨ret_bool (by rw [hq.out]; simp_all), (((Below.refl _ _).alloc (Nat.le_refl _) _).alloc (by simp) _).trans (hb.mono (by simp; omega))⟩)
  · have hq : Hid (decide ((⟨k, a, v, b, r⟩ : Sp) = ⟨k', a', v', b', s⟩) = false) := by unfold Hid; simp; intro h1 h2 h3 h4; exact absurd ⟨h1, h2, h3, h4⟩ hk
    by_cases h1 : k = k'
    · by_cases h2 : a = a'
      · by_cases h3 : v = v'
        · have h4 : ¬ b = b' := fun h => hk ⟨h1, h2, h3, h⟩
          clear hk
          go_enter Try.func102, Try.ntmps102
          go_wp2
          go_ret
          exact ⟨ret_bool hq.out.symm, ((Below.refl _ _).alloc (Nat.le_refl _) _).alloc (by simp) _⟩
        · clear hk
          go_enter Try.func102, Try.ntmps102
          go_wp2
          go_ret
          exact ⟨ret_bool hq.out.symm, ((Below.refl _ _).alloc (Nat.le_refl _) _).alloc (by simp) _⟩
      · clear hk
        go_enter Try.func102, Try.ntmps102
        go_wp2
        go_ret
        exact ⟨ret_bool hq.out.symm, ((Below.refl _ _).alloc (Nat.le_refl _) _).alloc (by simp) _⟩
    · clear hk
      go_enter Try.func102, Try.ntmps102
      go_wp2
      go_ret
      exact ⟨ret_bool hq.out.symm, ((Below.refl _ _).alloc (Nat.le_refl _) _).alloc (by simp) _⟩
theorem laws_eqStepS (A A' : Option Addr) (n n' c c' : Nat) (ps qs : List Sp) (w : World) (hn0 : n = ps.length) (hn1 : n' = qs.length) (hl : ps.length < 1000000000000) (hl' : qs.length < 1000000000000) (hR : Row w A (sps ps)) (hR' : Row w A' (sps qs)) :
    Calls Try.prog 50 #[.slice A n c, .slice A' n' c'] w fun e w' => e = .returned (.bool (decide (ps = qs))) ∧ Below w.heap.size w w' := by
  subst hn0; subst hn1
  by_cases hn : ps.length = qs.length
  · have HN := Lib.hid hn
    rw [← hn]
    clear hn hl'
    go_enter Try.func50, Try.ntmps50
    go_wp2
    go_loopw [5] (fun i wr => ∃ (k : Nat), k ≤ ps.length ∧ i = .int .i64 k ∧ Below w.heap.size w wr ∧ Hid (decide (ps = qs) = decide (ps.drop k = qs.drop k))) (fun i _ => ps.length - (intOf i).toNat)
    case atStart => exact ⟨0, by omega, rfl, Below.refl _ _, by simp [Hid]⟩
    case round =>
      obtain ⟨k, hk, rfl, hb, hg⟩ := hrel
      by_cases hlt : k < ps.length
      · obtain ⟨p, hp⟩ := get_some hlt
        obtain ⟨q, hq⟩ := get_some (l := qs) (k := k) (by have := HN.out; omega)
        have hd := Lib.hid (eq_drop hp hq)
        obtain ⟨b, o, rfl⟩ := hR.addr (sps_ne' (by rintro rfl; simp at hlt))
        obtain ⟨b', o', rfl⟩ := hR'.addr (sps_ne' (by rintro rfl; simp at hq))
        have hRk := hR.below hb (Nat.le_refl _)
        have hRk' := hR'.below hb (Nat.le_refl _)
        obtain ⟨c0, c1, c2, c3, c4, c5, c6, c7⟩ := hRk.sp hp
        obtain ⟨d0, d1, d2, d3, d4, d5, d6, d7⟩ := hRk'.sp hq
        have hk1 : (k : Int) < ps.length := by omega
        have HP := Lib.hid hp
        have HQ := Lib.hid hq
        clear hp hq
        go_wp2
        go_region_held3 (fun w' => w'.cell? ⟨b, o + k * 8, none⟩ = some (.int .i64 p.kind) ∧ w'.cell? ⟨b, o + k * 8 + 1, none⟩ = some (.int .i64 p.addr) ∧ w'.cell? ⟨b, o + k * 8 + 2, none⟩ = some (.int .i64 p.val) ∧ w'.cell? ⟨b, o + k * 8 + 3, none⟩ = some (.int .i64 p.block) ∧ w'.cell? ⟨b, o + k * 8 + 4, none⟩ = some (.int .i64 p.rc.kind) ∧ w'.cell? ⟨b, o + k * 8 + 5, none⟩ = some (.int .i64 p.rc.seq) ∧ w'.cell? ⟨b, o + k * 8 + 6, none⟩ = some (.int .i64 p.rc.addr) ∧ w'.cell? ⟨b, o + k * 8 + 7, none⟩ = some (.int .i64 p.rc.val) ∧
            w'.cell? ⟨b', o' + k * 8, none⟩ = some (.int .i64 q.kind) ∧ w'.cell? ⟨b', o' + k * 8 + 1, none⟩ = some (.int .i64 q.addr) ∧ w'.cell? ⟨b', o' + k * 8 + 2, none⟩ = some (.int .i64 q.val) ∧ w'.cell? ⟨b', o' + k * 8 + 3, none⟩ = some (.int .i64 q.block) ∧ w'.cell? ⟨b', o' + k * 8 + 4, none⟩ = some (.int .i64 q.rc.kind) ∧ w'.cell? ⟨b', o' + k * 8 + 5, none⟩ = some (.int .i64 q.rc.seq) ∧ w'.cell? ⟨b', o' + k * 8 + 6, none⟩ = some (.int .i64 q.rc.addr) ∧ w'.cell? ⟨b', o' + k * 8 + 7, none⟩ = some (.int .i64 q.rc.val))
          (first | go_keep | trivial)
          (first | (go_at_call 102; refine (laws_eqStep p q _).mono ?_; rintro e w1 ⟨rfl, hb1⟩; replace hb1 := undrew hb1; obtain ⟨e0, e1, e2, e3, e4, e5, e6, e7⟩ := (hRk.below hb1 (Nat.le_refl _)).sp HP.out; obtain ⟨g0, g1, g2, g3, g4, g5, g6, g7⟩ := (hRk'.below hb1 (Nat.le_refl _)).sp HQ.out))
        have hB1 := hb.trans (hb1.mono hb.size)
        go_wp2
        · have hne : (!decide (p = q)) = true := by assumption
          have hne' : decide (p = q) = false := by simpa using hne
          go_ret
          exact ⟨ret_bool (by rw [hg.out, hd.out, hne']; rfl), hB1⟩
        · have heq : (!decide (p = q)) = false := by assumption
          have heq' : decide (p = q) = true := by simpa using heq
          go_roundw
          case rel => exact ⟨k + 1, by omega, by go_num, hB1, by rw [Hid, hg.out, hd.out, heq', Bool.true_and]⟩
          case measure => simp [intOf]; omega
      · obtain rfl : k = ps.length := by omega
        go_wp2
        go_ret
        exact ⟨ret_bool (by rw [hg.out, List.drop_of_length_le (Nat.le_refl _), List.drop_of_length_le (by have := HN.out; omega)]; rfl), hb⟩
  · have hq : Hid (decide (ps = qs) = false) := by unfold Hid; simp; intro e; exact hn (by rw [e])
    go_enter Try.func50, Try.ntmps50
    go_wp2
    go_ret
    exact ⟨ret_bool hq.out.symm, Below.refl _ _⟩
theorem laws_szIntS (A : Option Addr) (n c : Nat) (left : Int) (w : World) (h1 : -1 ≤ left) (h2 : left ≤ 1048576) (hn : n ≤ 9223372036854775807) :
    Calls Try.prog 96 #[.slice A n c, .int .i64 left] w fun e w' => e = .returned (.int .i64 (down left n)) ∧ w = w' := by
  go_enter Try.func96, Try.ntmps96
  go_wp2
  all_goals (go_ret; exact ⟨ret_int (by unfold down; first | rw [if_pos (by omega)] | rw [if_neg (by omega)]), rfl⟩)
theorem laws_toIntS (A : Option Addr) (c : Nat) (xs : List Int) (w : World) (hl : xs.length ≤ 1048576) (hR : RRow w A (ints xs)) :
    Calls Try.prog 98 #[.slice A xs.length c] w fun e w' => ∃ g, e = .returned (.slice (some ⟨g, 0, none⟩) xs.length xs.length) ∧ w.heap.size ≤ g ∧ g < w'.heap.size ∧ Row w' (some ⟨g, 0, none⟩) (ints xs) ∧ Below w.heap.size w w' := by
  obtain ⟨ip, hip, hpz0, hpz1, hpz2⟩ := info_parts (show (Try.prog.info? 3).map (fun i => (i.zero, i.size, i.bytes)) = some (some (.int .i64 0), 1, 8) by kernel_rfl)
  have hmk := fun W => run_make_n (P := Try.prog) 24 3 ip _ 1 8 Try.underlying24 hip hpz0 hpz1 hpz2 xs.length (by omega) (by omega) W
  have hnew : Row (w.alloc (.cells (madeCells #[.int .i64 0] (xs.length * 1)) 3)) (some ⟨w.heap.size, 0, none⟩) (ints (List.replicate xs.length 0)) := by
    have := Row.new w (madeCells #[.int .i64 0] (xs.length * 1)) 3
    rw [made_list (fun x : Int => [Value.int .i64 x]) 0 #[.int .i64 0] 1 rfl rfl (by simp) xs.length] at this
    rw [show ints (List.replicate xs.length 0) = (List.replicate xs.length (0 : Int)).flatMap (fun x => [Value.int .i64 x]) from List.map_eq_flatMap]
    exact this
  have hB0 : Below w.heap.size w (w.alloc (.cells (madeCells #[.int .i64 0] (xs.length * 1)) 3)) := (Below.refl _ _).alloc (Nat.le_refl _) _
  have hmkw := hmk w
  have hsz : (w.alloc (.cells (madeCells #[.int .i64 0] (xs.length * 1)) 3)).heap.size = w.heap.size + 1 := by simp
  simp only [Value.cells] at hmkw
  generalize w.alloc (.cells (madeCells #[.int .i64 0] (xs.length * 1)) 3) = W at *
  have hszW : w.heap.size < W.heap.size := by omega
  clear hmk hsz
  go_enter Try.func98, Try.ntmps98
  go_wp2
  go_loopw [4] (fun i wr => ∃ k : Nat, k ≤ xs.length ∧ i = .int .i64 k ∧ Below w.heap.size w wr ∧ w.heap.size < wr.heap.size ∧ Row wr (some ⟨w.heap.size, 0, none⟩) (ints (xs.take k ++ (List.replicate xs.length 0).drop k))) (fun i _ => xs.length - (intOf i).toNat)
  case atStart => exact ⟨0, by omega, rfl, hB0, hszW, by simpa using hnew⟩
  case round =>
    clear hnew hB0 hszW hmkw
    obtain ⟨k, hk, rfl, hb, hsz, hr⟩ := hrel
    by_cases hlt : k < xs.length
    · obtain ⟨p, hp⟩ := get_some hlt
      obtain ⟨b, o, rfl⟩ := hR.addr (ints_ne (by rintro rfl; simp at hlt))
      obtain ⟨b0, o0, e0, hcc⟩ := (hR.below hb (Nat.le_refl _)) (ints_ne (by rintro rfl; simp at hlt))
      cases e0
      have c0 := hcc k (.int .i64 p) (by unfold ints; rw [List.getElem?_map, hp]; rfl)
      have hget : (xs.take k ++ (List.replicate xs.length 0).drop k)[k]? = some 0 := by
        rw [List.getElem?_append_right (by simp; omega), List.getElem?_drop, List.getElem?_replicate, if_pos (by simp; omega)]
      have hk1 : (k : Int) < xs.length := by omega
      obtain ⟨d0, f0⟩ := hr.int_ hget
      have hWp := wrote_one d0 (.int .i64 p)
      have hr2 := hr.setInt (k := k) (x := p) (by simp; omega) hWp
      rw [copy_step 0 xs xs.length k p hp rfl] at hr2
      have hB2 := hb.trans (hWp.agr.below (B := w.heap.size) hb.size (fun i e => by rw [e]; exact Nat.le_refl _))
      have HS := Lib.hid hWp.size
      simp only [Nat.zero_add] at d0 f0 hr2 hB2 HS
      clear hWp hget hp hcc
      go_wp2
      go_roundw
      case rel => exact ⟨k + 1, by omega, by go_num, hB2, by rw [HS.out]; exact hsz, hr2⟩
      case measure => simp [intOf]; omega
    · obtain rfl : k = xs.length := by omega
      go_wp2
      go_ret
      refine ⟨w.heap.size, rfl, Nat.le_refl _, hsz, ?_, hb⟩
      rw [List.take_of_length_le (Nat.le_refl _), List.drop_of_length_le (by simp), List.append_nil] at hr
      exact hr
end Go.Proofs.Ytbekihiiildgmaa
namespace Go.Proofs.Ytbekihiiildgmaa
set_option linter.unusedVariables false
set_option linter.unusedSimpArgs false
open Go.RowKit Go.Maps
set_option maxHeartbeats 4000000
set_option maxRecDepth 20000
theorem down_le {l : Int} {n : Nat} (h1 : -1 ≤ l) : -1 ≤ down l n ∧ down l n ≤ max l (-1) := by unfold down; split <;> omega
theorem szGo_le : ∀ (f : List Bk) (l : Int), -1 ≤ l → -1 ≤ szGo l f ∧ szGo l f ≤ max l (-1)
  | [], l, h => by unfold szGo; omega
  | b :: f, l, h => by
    unfold szGo
    split
    · omega
    · have h1 := down_le (l := l) (n := b.pages.length) h
      have h2 := szGo_le f (down l b.pages.length) h1.1
      omega
theorem szFl_le {l : Int} (f : List Bk) (h : 0 ≤ l) : -1 ≤ szFl l f ∧ szFl l f ≤ l := by
  unfold szFl
  split
  · omega
  · have := szGo_le f (l - f.length) (by omega)
    omega
def szSt (l : Int) (f : List Bk) (xs : List Int) : Int := if szFl l f < 0 then -1 else down (szFl l f) xs.length
theorem szSt_small {f : List Bk} {xs : List Int} (h : 0 ≤ szSt 1048576 f xs) : (f.length ≤ 1048576 ∧ ∀ b ∈ f, b.pages.length ≤ 1048576) ∧ xs.length ≤ 1048576 := by
  unfold szSt at h
  split at h
  · omega
  · rename_i h0
    have h1 := szFl_le f (show (0 : Int) ≤ 1048576 by omega)
    refine ⟨szFl_small (by omega), ?_⟩
    unfold down at h
    split at h <;> omega
theorem laws_szStore (A D : Option Addr) (c d : Nat) (f : List Bk) (xs : List Int) (hs : List (Option Addr × Nat)) (w : World) (hn : f.length ≤ 9223372036854775807) (hp : ∀ b ∈ f, b.pages.length ≤ 9223372036854775807) (hx : xs.length ≤ 9223372036854775807) (hF : RBks w A f hs) :
    Calls Try.prog 45 #[.agg #[.slice A f.length c, .slice D xs.length d], .int .i64 1048576] w fun e w' => e = .returned (.int .i64 (szSt 1048576 f xs)) ∧ Below w.heap.size w w' := by
  have hb0 : Below w.heap.size w (w.alloc (.cells #[.slice A f.length c, .slice D xs.length d] 63)) := (Below.refl _ _).alloc (Nat.le_refl _) _
  have H := Lib.hid (laws_szBlockS A c f hs 1048576 _ (by omega) (by omega) hn hp (hF.below hb0 (Nat.le_refl _)))
  obtain ⟨l1, l2⟩ := szFl_le f (show (0 : Int) ≤ 1048576 by omega)
  have HS : Hid (szSt 1048576 f xs = if szFl 1048576 f < 0 then -1 else down (szFl 1048576 f) xs.length) := rfl
  generalize szFl 1048576 f = l at *
  clear hn hp hF
  go_enter Try.func45, Try.ntmps45
  go_wp2_with fail
  with_reducible refine H.out.mono ?_
  rintro e w1 ⟨rfl, hb1⟩
  obtain ⟨hc1, hf1⟩ := bcell hb1
  have hB1 : Below w.heap.size w w1 := hb0.trans (hb1.mono (by simp))
  have hz : w.heap.size < w1.heap.size := by have := hb1.size; simp at this; omega
  by_cases hl : l < 0
  · have hs : szSt 1048576 f xs = -1 := by rw [HS.out, if_pos hl]
    clear hb1 H
    go_wp2
    go_ret
    exact ⟨ret_int hs.symm, hB1⟩
  · have hs : Hid (szSt 1048576 f xs = down l xs.length) := by rw [Hid, HS.out, if_neg hl]
    have hdl := down_le (l := l) (n := xs.length) (by omega)
    clear hb1 H
    go_wp2_with fail
    refine (laws_szIntS D xs.length d l _ (by omega) (by omega) hx).mono ?_
    rintro e w2 ⟨rfl, rfl⟩
    by_cases hl2 : down l xs.length < 0
    · go_wp2
      go_ret
      exact ⟨ret_int (by rw [hs.out]; omega), hB1⟩
    · go_wp2
      go_ret
      exact ⟨ret_int (by rw [hs.out]), hB1⟩
theorem laws_toStore (A D : Option Addr) (c d : Nat) (f : List Bk) (xs : List Int) (hs : List (Option Addr × Nat)) (w : World) (hl : f.length ≤ 1048576) (hp : ∀ b ∈ f, b.pages.length ≤ 1048576) (hx : xs.length ≤ 1048576) (hF : RBks w A f hs) (hD : RRow w D (ints xs)) :
    Calls Try.prog 47 #[.agg #[.slice A f.length c, .slice D xs.length d]] w fun e w' => ∃ A' D', e = .returned (.agg #[.slice A' f.length f.length, .slice D' xs.length xs.length]) ∧ OSt w' w.heap.size w'.heap.size A' f D' xs ∧ Below w.heap.size w w' := by
  have hb0 : Below w.heap.size w (((w.alloc (.cells #[.slice A f.length c, .slice D xs.length d] 63)).alloc (.cells #[.slice none 0 0, .slice none 0 0] 26)).alloc (.cells #[.slice none 0 0, .slice none 0 0] 26)) := (((Below.refl _ _).alloc (Nat.le_refl _) _).alloc (by simp) _).alloc (by simp; omega) _
  have H := Lib.hid (laws_toBlockS A c f hs _ hl hp (hF.below hb0 (Nat.le_refl _)))
  clear hl hp hF
  go_enter Try.func47, Try.ntmps47
  go_wp2_with fail
  with_reducible refine H.out.mono ?_
  rintro e w1 ⟨g, rfl, hO1, hb⟩
  obtain ⟨hc1, hf1⟩ := bcell hb
  have hz : w.heap.size + 1 + 1 < w1.heap.size := by have := hb.size; simp at this; omega
  have hB1 : Below w.heap.size w w1 := hb0.trans (hb.mono (by simp; omega))
  have hO1' : OFl w1 (w.heap.size + 1 + 1 + 1) w1.heap.size (some ⟨g, 0, none⟩) f := hO1.mono (by simp) (Nat.le_refl _)
  have q0 := (((Row.new w #[.slice A f.length c, .slice D xs.length d] 63).alloc (.cells #[.slice none 0 0, .slice none 0 0] 26)).alloc (.cells #[.slice none 0 0, .slice none 0 0] 26)).below hb (Nat.le_refl _)
  have q1 := (((Row.new (w.alloc (.cells #[.slice A f.length c, .slice D xs.length d] 63)) #[.slice none 0 0, .slice none 0 0] 26)).alloc (.cells #[.slice none 0 0, .slice none 0 0] 26)).below hb (Nat.le_refl _)
  have q2 := (Row.new ((w.alloc (.cells #[.slice A f.length c, .slice D xs.length d] 63)).alloc (.cells #[.slice none 0 0, .slice none 0 0] 26)) #[.slice none 0 0, .slice none 0 0] 26).below hb (Nat.le_refl _)
  simp only [World.size_alloc] at q1 q2
  obtain ⟨x0, _⟩ := q0.at0 (j := 1) rfl
  obtain ⟨r0, fr0⟩ := q1.at0 (j := 0) rfl
  obtain ⟨r1, fr1⟩ := q1.at0 (j := 1) rfl
  obtain ⟨t0, ft0⟩ := q2.at0 (j := 0) rfl
  obtain ⟨t1, ft1⟩ := q2.at0 (j := 1) rfl
  clear hc1 hf1 hb H hO1 q0 q1 q2
  have hW := wrote_one t0 (.slice (some ⟨g, 0, none⟩) f.length f.length)
  have hB2 := hB1.trans (hW.agr.below (B := w.heap.size) hB1.size (fun i e => by omega))
  have hO2 : OFl (w1.setCell ⟨w.heap.size + 1 + 1, 0, none⟩ (.slice (some ⟨g, 0, none⟩) f.length f.length)) (w.heap.size + 1 + 1 + 1) w1.heap.size (some ⟨g, 0, none⟩) f := hO1'.keep fun b h1 h2 hl => hW.block b (by omega)
  have H2 := Lib.hid (laws_toIntS D d xs _ hx (hD.below hB2 (Nat.le_refl _)))
  have hz2 : (w1.setCell ⟨w.heap.size + 1 + 1, 0, none⟩ (.slice (some ⟨g, 0, none⟩) f.length f.length)).heap.size = w1.heap.size := hW.size
  clear hx hD hO1'
  have HW := Lib.hid hW
  clear hW
  go_wp2_with fail
  with_reducible refine H2.out.mono ?_
  rintro e w2 ⟨g2, rfl, k1, k2, hR, hb⟩
  obtain ⟨hc2, hf2⟩ := bcell hb
  have hW := HW.out
  have hs2 := hb.size
  rw [hz2] at hs2 k1
  have x1 : w2.cell? ⟨w.heap.size + 1, 0, none⟩ = some (.slice none 0 0) := (hc2 (w.heap.size + 1) 0 (by rw [hz2]; omega)).trans ((hW.agr.cell (b := w.heap.size + 1) (by omega) (by omega) 0).trans r0)
  have x2 : w2.cell? ⟨w.heap.size + 1, 1, none⟩ = some (.slice none 0 0) := (hc2 (w.heap.size + 1) 1 (by rw [hz2]; omega)).trans ((hW.agr.cell (b := w.heap.size + 1) (by omega) (by omega) 1).trans r1)
  have y0 : w2.cell? ⟨w.heap.size + 1 + 1, 0, none⟩ = some (.slice (some ⟨g, 0, none⟩) f.length f.length) := (hc2 (w.heap.size + 1 + 1) 0 (by rw [hz2]; omega)).trans (hW.new_ 0 _ rfl)
  have y1 : w2.cell? ⟨w.heap.size + 1 + 1, 1, none⟩ = some (.slice none 0 0) := (hc2 (w.heap.size + 1 + 1) 1 (by rw [hz2]; omega)).trans ((hW.old_ 1 (by simp)).trans t1)
  have gr0 : w2.frozen? ⟨w.heap.size + 1, 0, none⟩ = false := (hf2 (w.heap.size + 1) 0 (by rw [hz2]; omega)).trans ((hW.frozen _).trans fr0)
  have gr1 : w2.frozen? ⟨w.heap.size + 1, 1, none⟩ = false := (hf2 (w.heap.size + 1) 1 (by rw [hz2]; omega)).trans ((hW.frozen _).trans fr1)
  have gt1 : w2.frozen? ⟨w.heap.size + 1 + 1, 1, none⟩ = false := (hf2 (w.heap.size + 1 + 1) 1 (by rw [hz2]; omega)).trans ((hW.frozen _).trans ft1)
  have hO3 := hO2.below hb (by rw [hz2]; exact Nat.le_refl _)
  have hB3 : Below w.heap.size w w2 := hB2.trans (hb.mono hB2.size)
  clear hc2 hf2 hb H2 hO2 hB2 hW HW x0 r0 r1 t0 t1 fr0 fr1 ft0 ft1 hz2
  go_wp2
  refine bodyPost_ret (v := .agg #[.slice (some ⟨g, 0, none⟩) f.length f.length, .slice (some ⟨g2, 0, none⟩) xs.length xs.length]) (by simp [results, Try.results47, go_sem, x1, x2, y0, y1]) rfl ⟨_, _, rfl, ?_, ?_⟩
  · refine OSt.mk' (lf := w.heap.size + 1 + 1 + 1) (hf := w1.heap.size) (hO3.keep fun b h1 h2 hl => ?_) (hR.keep fun b hb hl => ?_) (by omega) (by simp; omega) (by omega) (by simp; omega) (.inr k1)
    · repeat (first | rfl | (refine (Below.heap_setCell _ _ _ _ (by simp; omega)).trans ?_))
    · rw [blk_some] at hb
      subst hb
      repeat (first | rfl | (refine (Below.heap_setCell _ _ _ _ (by simp; omega)).trans ?_))
  · have hB := hB3
    (repeat (first | (with_reducible exact Below.refl _ _) | (with_reducible assumption) | (refine Below.setCell ?_ (by first | omega | exact hB.size | exact hb.size | (have h := hB.size; simp; omega) | (have h := hb.size; simp; omega) | (simp; omega) | simp) _) | (refine Below.alloc ?_ (by first | omega | exact hB.size | exact hb.size | (have h := hB.size; simp; omega) | (have h := hb.size; simp; omega) | (simp; omega) | simp) _) | (refine Below.drew ?_)))
end Go.Proofs.Ytbekihiiildgmaa
namespace Go.Proofs.Ytbekihiiildgmaa
set_option linter.unusedVariables false
set_option linter.unusedSimpArgs false
open Go.RowKit Go.Maps
set_option maxHeartbeats 4000000
set_option maxRecDepth 20000
def sp0 : Sp := ⟨0, 0, 0, 0, rc0⟩
theorem RRow.sp {w : World} {b o k : Nat} {ps : List Sp} {p : Sp} (h : RRow w (some ⟨b, o, none⟩) (sps ps)) (hk : ps[k]? = some p) :
    w.cell? ⟨b, o + k * 8, none⟩ = some (.int .i64 p.kind) ∧ w.cell? ⟨b, o + k * 8 + 1, none⟩ = some (.int .i64 p.addr) ∧ w.cell? ⟨b, o + k * 8 + 2, none⟩ = some (.int .i64 p.val) ∧ w.cell? ⟨b, o + k * 8 + 3, none⟩ = some (.int .i64 p.block) ∧
      w.cell? ⟨b, o + k * 8 + 4, none⟩ = some (.int .i64 p.rc.kind) ∧ w.cell? ⟨b, o + k * 8 + 5, none⟩ = some (.int .i64 p.rc.seq) ∧ w.cell? ⟨b, o + k * 8 + 6, none⟩ = some (.int .i64 p.rc.addr) ∧ w.cell? ⟨b, o + k * 8 + 7, none⟩ = some (.int .i64 p.rc.val) := by
  have hlt := (List.getElem?_eq_some_iff.1 hk).1
  obtain ⟨b', o', he, hc⟩ := h (by intro e; have := sps_len ps; rw [e] at this; simp at this; omega)
  cases he
  have hg : ∀ j u, p.vs[j]? = some u → j < 8 → w.cell? ⟨b, o + (k * 8 + j), none⟩ = some u := fun j u hj hl => hc (k * 8 + j) u (by rw [sps, flat_get _ 8 (fun _ => rfl) ps k j p hk hl]; exact hj)
  exact ⟨hg 0 _ rfl (by omega), hg 1 _ rfl (by omega), hg 2 _ rfl (by omega), hg 3 _ rfl (by omega), hg 4 _ rfl (by omega), hg 5 _ rfl (by omega), hg 6 _ rfl (by omega), hg 7 _ rfl (by omega)⟩
theorem laws_szStepS (A : Option Addr) (n c : Nat) (left : Int) (w : World) (h1 : -1 ≤ left) (h2 : left ≤ 1048576) (hn : n ≤ 9223372036854775807) :
    Calls Try.prog 46 #[.slice A n c, .int .i64 left] w fun e w' => e = .returned (.int .i64 (down left n)) ∧ w = w' := by
  go_enter Try.func46, Try.ntmps46
  go_wp2
  all_goals (go_ret; exact ⟨ret_int (by unfold down; first | rw [if_pos (by omega)] | rw [if_neg (by omega)]), rfl⟩)
theorem laws_toStep (p : Sp) (w : World) : Calls Try.prog 99 #[.agg #[.int .i64 p.kind, .int .i64 p.addr, .int .i64 p.val, .int .i64 p.block, .int .i64 p.rc.kind, .int .i64 p.rc.seq, .int .i64 p.rc.addr, .int .i64 p.rc.val]] w fun e w' => e = .returned (.agg #[.int .i64 p.kind, .int .i64 p.addr, .int .i64 p.val, .int .i64 p.block, .int .i64 p.rc.kind, .int .i64 p.rc.seq, .int .i64 p.rc.addr, .int .i64 p.rc.val]) ∧ Below w.heap.size w w' := by
  obtain ⟨k0, k1, k2, k3, ⟨k, q, a, v⟩⟩ := p
  dsimp only
  go_enter Try.func99, Try.ntmps99
  go_wp2_with fail
  refine (laws_toRec ⟨k, q, a, v⟩ _).mono ?_
  rintro e w1 ⟨rfl, hb⟩
  obtain ⟨hc, hf⟩ := bcell hb
  have hz : w.heap.size + 1 + 1 < w1.heap.size := by have := hb.size; simp at this; omega
  have hB : Below w.heap.size w w1 := Below.trans (by (repeat (first | (with_reducible exact Below.refl _ _) | (with_reducible assumption) | (refine Below.setCell ?_ (by first | omega | exact hB.size | exact hb.size | (have h := hB.size; simp; omega) | (have h := hb.size; simp; omega) | (simp; omega) | simp) _) | (refine Below.alloc ?_ (by first | omega | exact hB.size | exact hb.size | (have h := hB.size; simp; omega) | (have h := hb.size; simp; omega) | (simp; omega) | simp) _) | (refine Below.drew ?_)))) (hb.mono (by simp; omega))
  clear hb
  go_wp2
  refine bodyPost_ret (v := .agg #[.int .i64 k0, .int .i64 k1, .int .i64 k2, .int .i64 k3, .int .i64 k, .int .i64 q, .int .i64 a, .int .i64 v]) (by simp [results, Try.results99, go_sem, hc, hz]) rfl ⟨rfl, ?_⟩
  (repeat (first | (with_reducible exact Below.refl _ _) | (with_reducible assumption) | (refine Below.setCell ?_ (by first | omega | exact hB.size | exact hb.size | (have h := hB.size; simp; omega) | (have h := hb.size; simp; omega) | (simp; omega) | simp) _) | (refine Below.alloc ?_ (by first | omega | exact hB.size | exact hb.size | (have h := hB.size; simp; omega) | (have h := hb.size; simp; omega) | (simp; omega) | simp) _) | (refine Below.drew ?_)))
theorem laws_toStepS (A : Option Addr) (c : Nat) (ps : List Sp) (w : World) (hl : ps.length ≤ 1048576) (hR : RRow w A (sps ps)) :
    Calls Try.prog 48 #[.slice A ps.length c] w fun e w' => ∃ g, e = .returned (.slice (some ⟨g, 0, none⟩) ps.length ps.length) ∧ w.heap.size ≤ g ∧ g < w'.heap.size ∧ Row w' (some ⟨g, 0, none⟩) (sps ps) ∧ Below w.heap.size w w' := by
  obtain ⟨ip, hip, hpz0, hpz1, hpz2⟩ := info_parts Try.info3_step
  have hmk := fun W => run_make_n (P := Try.prog) 37 47 ip _ 8 64 Try.underlying37 hip hpz0 hpz1 hpz2 ps.length (by omega) (by omega) W
  have hnew : Row (w.alloc (.cells (madeCells #[.int .i64 0, .int .i64 0, .int .i64 0, .int .i64 0, .int .i64 0, .int .i64 0, .int .i64 0, .int .i64 0] (ps.length * 8)) 47)) (some ⟨w.heap.size, 0, none⟩) (sps (List.replicate ps.length sp0)) := by
    have := Row.new w (madeCells #[.int .i64 0, .int .i64 0, .int .i64 0, .int .i64 0, .int .i64 0, .int .i64 0, .int .i64 0, .int .i64 0] (ps.length * 8)) 47
    rw [made_list Sp.vs sp0 #[.int .i64 0, .int .i64 0, .int .i64 0, .int .i64 0, .int .i64 0, .int .i64 0, .int .i64 0, .int .i64 0] 8 rfl rfl (by simp) ps.length] at this
    exact this
  have hB0 : Below w.heap.size w (w.alloc (.cells (madeCells #[.int .i64 0, .int .i64 0, .int .i64 0, .int .i64 0, .int .i64 0, .int .i64 0, .int .i64 0, .int .i64 0] (ps.length * 8)) 47)) := (Below.refl _ _).alloc (Nat.le_refl _) _
  have hmkw := hmk w
  have hsz : (w.alloc (.cells (madeCells #[.int .i64 0, .int .i64 0, .int .i64 0, .int .i64 0, .int .i64 0, .int .i64 0, .int .i64 0, .int .i64 0] (ps.length * 8)) 47)).heap.size = w.heap.size + 1 := by simp
  simp only [Value.cells] at hmkw
  generalize w.alloc (.cells (madeCells #[.int .i64 0, .int .i64 0, .int .i64 0, .int .i64 0, .int .i64 0, .int .i64 0, .int .i64 0, .int .i64 0] (ps.length * 8)) 47) = W at *
  have hszW : w.heap.size < W.heap.size := by omega
  clear hmk hsz
  go_enter Try.func48, Try.ntmps48
  go_wp2
  go_loopw [4] (fun i wr => ∃ k : Nat, k ≤ ps.length ∧ i = .int .i64 k ∧ Below w.heap.size w wr ∧ w.heap.size < wr.heap.size ∧ Row wr (some ⟨w.heap.size, 0, none⟩) (sps (ps.take k ++ (List.replicate ps.length sp0).drop k))) (fun i _ => ps.length - (intOf i).toNat)
  case atStart => exact ⟨0, by omega, rfl, hB0, hszW, by simpa using hnew⟩
  case round =>
    clear hnew hB0 hszW hmkw
    obtain ⟨k, hk, rfl, hb, hsz, hr⟩ := hrel
    by_cases hlt : k < ps.length
    · obtain ⟨p, hp⟩ := get_some hlt
      obtain ⟨b, o, rfl⟩ := hR.addr (sps_ne' (by rintro rfl; simp at hlt))
      obtain ⟨c0, c1, c2, c3, c4, c5, c6, c7⟩ := (hR.below hb (Nat.le_refl _)).sp hp
      have hget : (ps.take k ++ (List.replicate ps.length sp0).drop k)[k]? = some sp0 := by
        rw [List.getElem?_append_right (by simp; omega), List.getElem?_drop, List.getElem?_replicate, if_pos (by simp; omega)]
      have hk1 : (k : Int) < ps.length := by omega
      have HP := Lib.hid hp
      have HG := Lib.hid hget
      clear hp hget
      go_wp2_with fail
      refine (laws_toStep p _).mono ?_
      rintro e w1 ⟨rfl, hb1⟩
      have hr1 := hr.below hb1 (Nat.le_refl _)
      obtain ⟨d0, d1, d2, d3, d4, d5, d6, d7⟩ := hr1.sp HG.out
      obtain ⟨f0, f1, f2, f3, f4, f5, f6, f7⟩ := hr1.spf HG.out
      have hWp := wrote_sp hr1 HG.out p
      have hr2 := hr1.setSp (k := k) (by simp; omega) hWp
      rw [copy_step sp0 ps ps.length k p HP.out rfl] at hr2
      have hB1 := hb.trans (hb1.mono hb.size)
      have hB2 := hB1.trans (hWp.agr.below (B := w.heap.size) hB1.size (fun i e => by rw [e]; exact Nat.le_refl _))
      have hs1 := hb1.size
      have HS := Lib.hid hWp.size
      have hs2 : w.heap.size < w1.heap.size := by omega
      simp only [Nat.zero_add] at d0 d1 d2 d3 d4 d5 d6 d7 f0 f1 f2 f3 f4 f5 f6 f7 hr2 hB2 HS
      clear hWp hr1 hb1 c0 c1 c2 c3 c4 c5 c6 c7
      go_wp2
      go_roundw
      case rel => exact ⟨k + 1, by omega, by go_num, hB2, by rw [HS.out]; exact hs2, hr2⟩
      case measure => simp [intOf]; omega
    · obtain rfl : k = ps.length := by omega
      go_wp2
      go_ret
      refine ⟨w.heap.size, rfl, Nat.le_refl _, hsz, ?_, hb⟩
      rw [List.take_of_length_le (Nat.le_refl _), List.drop_of_length_le (by simp), List.append_nil] at hr
      exact hr
end Go.Proofs.Ytbekihiiildgmaa
namespace Go.Proofs.Ytbekihiiildgmaa
set_option linter.unusedVariables false
set_option linter.unusedSimpArgs false
open Go.RowKit Go.WideShapes Go.ChangeShapes
section
variable {H : Type} {enc : TypeId × Value → H} {P : Program}
/-- an argument reads behind the call as before, if below the heap's old size nothing has turned -/
theorem trod_kept {t : TypeId} (hl : laidOutB P = true) (hr : P.readableRec t = true) (hrow : t < P.types.size) {W W' : World} {v : Value} {d : DataW H} {ps qs : List MemPlace} {sp : Nat → Bool}
    (h : DataW.Trod enc P W 0 (fun _ => true) true t v d ps) (hb : Below W.heap.size W W') (hlt : ∀ x ∈ qs, x.block < W.heap.size) (hsp : ∀ p ∈ qs, sp p.block = true) (hq : ∀ x ∈ ps, x ∈ qs) : DataW.Trod enc P W' 0 sp true t v d ps :=
  WideElems.Trod_stays hl hr hrow h (fun x hx => hb.same (hlt x (hq x hx))) (fun x hx => hsp x (hq x hx))
theorem post_of_below {f : Func} {s : ChangeSpec} {apart fresh handsOn again : Bool} {W W' : World} {args : Array Value} {v : Value} {ds gs : List (DataW H)} {before pa pv : List MemPlace}
    (hW : DataW.Whole enc P f.params.toList s.vars apart W args.toList ds gs before)
    (hres : ∀ (b : Nat) (sp : Nat → Bool) (hd : Bool), DataW.TrodAll enc P W' b sp hd f.resultTypes.toList (v.resultList f.resultTypes.size) (s.fn H (ds ++ gs)).results [])
    (hargs : ∀ sp : Nat → Bool, (∀ p ∈ before, sp p.block = true) → DataW.TrodAll enc P W' 0 sp true f.params.toList args.toList (s.fn H (ds ++ gs)).args pa)
    (hvars : ∀ sp : Nat → Bool, (∀ p ∈ before, sp p.block = true) → DataW.TrodVars enc P W' sp s.vars (s.fn H (ds ++ gs)).vars pv)
    (hps : before = pa ++ pv) (hb : Below W.heap.size W W')
    (hok : ∀ (j : Nat) (t : TypeId) (r : Value), f.resultTypes[j]? = some t → (v.resultList f.resultTypes.size)[j]? = some r → Value.okWide P W' .any 0 t r) :
    s.post enc P f apart fresh handsOn again W args v W' := by
  have hlt : ∀ p ∈ before, p.block < W.heap.size := fun p hp => hW.lt p hp
  have hold : ∀ p ∈ before, (fun b => decide (b < W.heap.size)) p.block = true := fun p hp => by simpa using hlt p hp
  refine ⟨ds, gs, before, [], pa, pv, hW, hres _ _ _, hargs _ hold, hvars _ hold, World.keptBut_mono (fun p hp => ⟨hp, ?_⟩) (hb.frame (· ∈ before)), fun _ => ?_⟩
  · rw [hps, List.mem_append] at hp
    exact Or.inr hp
  · obtain ⟨_, _, _, _, _, hz, hn⟩ := hW
    refine ⟨hok, _, _, ([] ++ pa) ++ pv, ⟨[] ++ pa, pv, trodAll_append (hargs _ (fun _ _ => rfl)) (hres _ _ _), hvars _ (fun _ _ => rfl), rfl, ?_, ?_⟩, ?_⟩
    · intro b off hp
      have hin : MemPlace.cell b off ∈ before := by rw [hps]; simpa using hp
      rw [hb.frozen (hlt _ hin)]
      exact hz b off hin
    · intro ha
      have := hn ha
      rw [hps] at this
      simpa using this
    · intro p hp _
      rw [hps]
      simpa using hp
end
end Go.Proofs.Ytbekihiiildgmaa
namespace Go.Proofs.Ytbekihiiildgmaa
set_option linter.unusedVariables false
set_option linter.unusedSimpArgs false
open Go.RowKit Go.ChangeShapes Go.WideShapes Go.Deep
set_option maxRecDepth 100000
instance : Inhabited Pg := ⟨⟨0, rc0⟩⟩
section
variable {H : Type} {enc : TypeId × Value → H} {w : World} {base fuel : Nat} {spare : Nat → Bool} {held : Bool}
theorem plain_addr {w : World} {a : Addr} {u : Value} (h : w.cell? a = some u) : ∃ b o, a = ⟨b, o, none⟩ := by
  obtain ⟨b, o, s⟩ := a
  cases s with
  | none => exact ⟨b, o, rfl⟩
  | some s =>
    have : w.cell? ⟨b, o, some s⟩ = none := by
      unfold World.cell?
      split
      · exact if_pos rfl
      · rfl
    rw [this] at h; cases h
theorem cellsOf_int : Try.prog.cellsOf 3 = 1 := by kernel_rfl
theorem cellsOf_lrec : Try.prog.cellsOf 125 = 4 := by kernel_rfl
theorem cellsOf_lpage : Try.prog.cellsOf 190 = 5 := by kernel_rfl
theorem cellsOf_lpages : Try.prog.cellsOf 161 = 1 := by kernel_rfl
theorem cellsOf_lblock : Try.prog.cellsOf 163 = 2 := by kernel_rfl
theorem rec_of {cs : List Value} {x : DataW H × List MemPlace} (h : DataW.trod enc Try.prog w base spare held fuel 125 cs = some x) : ∃ r : Rc, cs = r.vs := by
  obtain ⟨xs, n, _, _, hl, hx, hf⟩ := DataW.trod_struct Try.underlying125 h
  rw [cellsOf_lrec] at hl
  match cs, hl with
  | [c0, c1, c2, c3], _ =>
    match xs, hx with
    | [y0, y1, y2, y3], _ =>
      have h0 := hf 0 _ rfl
      have h1 := hf 1 _ rfl
      have h2 := hf 2 _ rfl
      have h3 := hf 3 _ rfl
      simp [cellsOf_int] at h0 h1 h2 h3
      obtain ⟨a, e0, _⟩ := DataW.trod_int Try.underlying3 h0
      obtain ⟨b, e1, _⟩ := DataW.trod_int Try.underlying3 h1
      obtain ⟨c, e2, _⟩ := DataW.trod_int Try.underlying3 h2
      obtain ⟨d, e3, _⟩ := DataW.trod_int Try.underlying3 h3
      simp at e0 e1 e2 e3
      subst e0; subst e1; subst e2; subst e3
      exact ⟨⟨a, b, c, d⟩, rfl⟩
theorem lpage_of {cs : List Value} {x : DataW H × List MemPlace} (h : DataW.trod enc Try.prog w base spare held fuel 190 cs = some x) : ∃ p : Pg, cs = p.vs := by
  obtain ⟨xs, n, _, _, hl, hx, hf⟩ := DataW.trod_struct Try.underlying190 h
  rw [cellsOf_lpage] at hl
  match cs, hl with
  | [c0, c1, c2, c3, c4], _ =>
    match xs, hx with
    | [y0, y1], _ =>
      have h0 := hf 0 _ rfl
      have h1 := hf 1 _ rfl
      simp [cellsOf_int] at h0
      simp [cellsOf_lrec] at h1
      obtain ⟨a, e0, _⟩ := DataW.trod_int Try.underlying3 h0
      obtain ⟨r, e1⟩ := rec_of h1
      simp [Rc.vs] at e0 e1
      obtain ⟨rfl, rfl, rfl, rfl⟩ := e1
      subst e0
      exact ⟨⟨a, r⟩, rfl⟩
/-- a row of elements of m cells each, read one by one, is a row of a list -/
theorem rrow_of {α : Type} [Inhabited α] (g : α → List Value) (m : Nat) (hg : ∀ x, (g x).length = m) (hm : 0 < m) {a : Addr} {n : Nat} (h : ∀ i, i < n → ∃ x : α, ∀ j u, (g x)[j]? = some u → w.cell? (a.add (i * m + j)) = some u) :
    ∃ l : List α, l.length = n ∧ RRow w (some a) (l.flatMap g) := by
  refine ⟨(List.range n).map fun i => if hi : i < n then Classical.choose (h i hi) else default, by simp, fun hne => ?_⟩
  have hn : 0 < n := by
    rcases Nat.eq_zero_or_pos n with rfl | hn
    · simp at hne
    · exact hn
  obtain ⟨x, hx⟩ := h 0 hn
  obtain ⟨u, hu⟩ := get_some (l := g x) (k := 0) (by rw [hg]; exact hm)
  obtain ⟨b, o, rfl⟩ := plain_addr (a := a) (u := u) (by simpa [Addr.add] using hx 0 u hu)
  refine ⟨b, o, rfl, fun j u hj => ?_⟩
  have hjl := (List.getElem?_eq_some_iff.1 hj).1
  rw [flat_len g m hg] at hjl
  simp at hjl
  have hi : j / m < n := Nat.div_lt_of_lt_mul (by rw [Nat.mul_comm]; exact hjl)
  have hd : j = j / m * m + j % m := by rw [Nat.mul_comm]; exact (Nat.div_add_mod j m).symm
  have hr : j % m < m := Nat.mod_lt _ hm
  have key := flat_get g m hg ((List.range n).map fun i => if hi : i < n then Classical.choose (h i hi) else default) (j / m) (j % m) (Classical.choose (h (j / m) hi)) (by rw [List.getElem?_map, List.getElem?_range hi]; simp [hi]) hr
  rw [← hd, hj] at key
  have := Classical.choose_spec (h (j / m) hi) (j % m) u key.symm
  rw [← hd, addr_add] at this
  exact this
theorem pages_of {cs : List Value} {x : DataW H × List MemPlace} (h : DataW.trod enc Try.prog w base spare held fuel 161 cs = some x) : ∃ A c ps, cs = [.slice A (List.length ps) c] ∧ List.length ps ≤ maxLen ∧ RRow w A (pgs ps) := by
  rcases open_slice Try.underlying161 h with ⟨rfl, _⟩ | ⟨a, len, cap, m, n, D, Pl, rfl, _, hlc, hcm, hm, _, hi⟩
  · exact ⟨none, 0, [], rfl, Nat.zero_le _, fun h => absurd rfl h⟩
  · have hlm : len ≤ m := by rw [hm]; split <;> omega
    obtain ⟨ps, hps, hr⟩ := rrow_of (α := Pg) (w := w) (a := a) (n := len) Pg.vs 5 (fun _ => rfl) (by omega) (fun i hlt => by
      obtain ⟨cs', hc, ht⟩ := hi i (by omega)
      obtain ⟨p, rfl⟩ := lpage_of ht
      obtain ⟨_, hl, hcell⟩ := World.cells?_some hc
      refine ⟨p, fun j u hj => ?_⟩
      have hj5 : j < 5 := (List.getElem?_eq_some_iff.1 hj).1
      have := hcell j (by rw [cellsOf_lpage]; exact hj5)
      rw [cellsOf_lpage] at this
      rw [← Go.Deep.add_add, this, hj])
    exact ⟨some a, cap, ps, by rw [hps], by omega, hr⟩
theorem block_of {cs : List Value} {x : DataW H × List MemPlace} (h : DataW.trod enc Try.prog w base spare held fuel 163 cs = some x) : ∃ (b : Bk) (y : Option Addr × Nat), cs = [.slice y.1 b.pages.length y.2, .int .i64 b.worn] ∧ b.pages.length ≤ maxLen ∧ RRow w y.1 (pgs b.pages) := by
  obtain ⟨xs, n, _, _, hl, hx, hf⟩ := DataW.trod_struct Try.underlying163 h
  rw [cellsOf_lblock] at hl
  match cs, hl with
  | [c0, c1], _ =>
    match xs, hx with
    | [y0, y1], _ =>
      have h0 := hf 0 _ rfl
      have h1 := hf 1 _ rfl
      simp [cellsOf_lpages] at h0
      simp [cellsOf_int] at h1
      obtain ⟨A, c, ps, e0, hml, hr⟩ := pages_of h0
      obtain ⟨n, e1, _⟩ := DataW.trod_int Try.underlying3 h1
      simp at e0 e1
      subst e0; subst e1
      exact ⟨⟨ps, n⟩, (A, c), rfl, hml, hr⟩
theorem blocks_of {cs : List Value} {x : DataW H × List MemPlace} (h : DataW.trod enc Try.prog w base spare held fuel 61 cs = some x) : ∃ A c f hs, cs = [.slice A (List.length f) c] ∧ List.length f ≤ maxLen ∧ (∀ b ∈ f, b.pages.length ≤ maxLen) ∧ RBks w A f hs := by
  rcases open_slice Try.underlying61 h with ⟨rfl, _⟩ | ⟨a, len, cap, m, n, D, Pl, rfl, _, hlc, hcm, hm, _, hi⟩
  · exact ⟨none, 0, [], [], rfl, Nat.zero_le _, by simp, ⟨rfl, fun h => absurd rfl h, fun _ _ _ h _ => absurd h (by simp)⟩⟩
  · have hlm : len ≤ m := by rw [hm]; split <;> omega
    have key : ∀ i, i < len → ∃ z : Bk × (Option Addr × Nat), (∀ j u, ([.slice z.2.1 z.1.pages.length z.2.2, .int .i64 z.1.worn] : List Value)[j]? = some u → w.cell? (a.add (i * 2 + j)) = some u) ∧ z.1.pages.length ≤ maxLen ∧ RRow w z.2.1 (pgs z.1.pages) := fun i hlt => by
      obtain ⟨cs', hc, ht⟩ := hi i (by omega)
      obtain ⟨b, y, rfl, hml, hr⟩ := block_of ht
      obtain ⟨_, hl, hcell⟩ := World.cells?_some hc
      refine ⟨(b, y), fun j u hj => ?_, hml, hr⟩
      have hj2 : j < 2 := (List.getElem?_eq_some_iff.1 hj).1
      have := hcell j (by rw [cellsOf_lblock]; exact hj2)
      rw [cellsOf_lblock] at this
      rw [← Go.Deep.add_add, this, hj]
    let Z : Nat → Bk × (Option Addr × Nat) := fun i => if hi : i < len then Classical.choose (key i hi) else (⟨[], 0⟩, (none, 0))
    have hZ : ∀ i, i < len → (∀ j u, ([.slice (Z i).2.1 (Z i).1.pages.length (Z i).2.2, .int .i64 (Z i).1.worn] : List Value)[j]? = some u → w.cell? (a.add (i * 2 + j)) = some u) ∧ (Z i).1.pages.length ≤ maxLen ∧ RRow w (Z i).2.1 (pgs (Z i).1.pages) := fun i hlt => by
      simp only [Z, dif_pos hlt]; exact Classical.choose_spec (key i hlt)
    refine ⟨some a, cap, (List.range len).map fun i => (Z i).1, (List.range len).map fun i => (Z i).2, by simp, by simp; omega, fun b hb => by
      obtain ⟨i, hi, rfl⟩ := List.mem_map.1 hb
      exact (hZ i (List.mem_range.1 hi)).2.1, ⟨by simp, fun hne => ?_, fun i b y hb hy => ?_⟩⟩
    · have e : ∀ l : List Nat, hdrs (l.map fun i => (Z i).1) (l.map fun i => (Z i).2) = l.flatMap fun i => [.slice (Z i).2.1 (Z i).1.pages.length (Z i).2.2, .int .i64 (Z i).1.worn] := by
        intro l
        induction l with
        | nil => rfl
        | cons x l ih => simp only [List.map_cons, hdrs, List.flatMap_cons, ih]; rfl
      rw [e] at hne ⊢
      have hn : 0 < len := by
        rcases Nat.eq_zero_or_pos len with h0 | h0
        · rw [h0] at hne; simp at hne
        · exact h0
      obtain ⟨b, o, rfl⟩ := plain_addr (a := a) (by simpa [Addr.add] using (hZ 0 hn).1 0 _ rfl)
      refine ⟨b, o, rfl, fun j u hj => ?_⟩
      have hjl := (List.getElem?_eq_some_iff.1 hj).1
      rw [flat_len _ 2 (fun _ => rfl)] at hjl
      simp at hjl
      have hi : j / 2 < len := by omega
      have hd : j = j / 2 * 2 + j % 2 := by omega
      have hf := flat_get (fun i => [Value.slice (Z i).2.1 (Z i).1.pages.length (Z i).2.2, .int .i64 (Z i).1.worn]) 2 (fun _ => rfl) (List.range len) (j / 2) (j % 2) (j / 2) (List.getElem?_range hi) (by omega)
      rw [← hd, hj] at hf
      have := (hZ _ hi).1 (j % 2) u hf.symm
      rw [← hd, addr_add] at this
      exact this
    · rw [List.getElem?_map] at hb hy
      have hi : i < len := by
        rcases Nat.lt_or_ge i len with h0 | h0
        · exact h0
        · rw [List.getElem?_eq_none (by simpa using h0)] at hb; cases hb
      rw [List.getElem?_range hi] at hb hy
      cases hb; cases hy
      exact (hZ i hi).2.2
end
end Go.Proofs.Ytbekihiiildgmaa
namespace Go.Proofs.Ytbekihiiildgmaa
set_option linter.unusedVariables false
set_option linter.unusedSimpArgs false
open Go.RowKit Go.ChangeShapes Go.WideShapes Go.Deep
set_option maxRecDepth 100000
instance : Inhabited Sp := ⟨⟨0, 0, 0, 0, rc0⟩⟩
section
variable {H : Type} {enc : TypeId × Value → H} {w : World} {base fuel : Nat} {spare : Nat → Bool} {held : Bool}
theorem cellsOf_ints : Try.prog.cellsOf 24 = 1 := by kernel_rfl
theorem cellsOf_lblocks : Try.prog.cellsOf 61 = 1 := by kernel_rfl
theorem cellsOf_lstore : Try.prog.cellsOf 63 = 2 := by kernel_rfl
theorem ints_of {cs : List Value} {x : DataW H × List MemPlace} (h : DataW.trod enc Try.prog w base spare held fuel 24 cs = some x) : ∃ A c xs, cs = [.slice A (List.length xs) c] ∧ List.length xs ≤ maxLen ∧ RRow w A (ints xs) := by
  rcases open_slice Try.underlying24 h with ⟨rfl, _⟩ | ⟨a, len, cap, m, n, D, Pl, rfl, _, hlc, hcm, hm, _, hi⟩
  · exact ⟨none, 0, [], rfl, Nat.zero_le _, fun h => absurd rfl h⟩
  · have hlm : len ≤ m := by rw [hm]; split <;> omega
    obtain ⟨xs, hxs, hr⟩ := rrow_of (α := Int) (w := w) (a := a) (n := len) (fun x => [Value.int .i64 x]) 1 (fun _ => rfl) (by omega) (fun i hlt => by
      obtain ⟨cs', hc, ht⟩ := hi i (by omega)
      obtain ⟨x, rfl, _⟩ := DataW.trod_int Try.underlying3 ht
      obtain ⟨_, hl, hcell⟩ := World.cells?_some hc
      refine ⟨x, fun j u hj => ?_⟩
      have hj1 : j < 1 := (List.getElem?_eq_some_iff.1 hj).1
      have := hcell j (by rw [cellsOf_int]; exact hj1)
      rw [cellsOf_int] at this
      rw [← Go.Deep.add_add, this, hj])
    exact ⟨some a, cap, xs, by rw [hxs], by omega, by rw [show ints xs = xs.flatMap (fun x => [Value.int .i64 x]) from List.map_eq_flatMap]; exact hr⟩
theorem store_of {cs : List Value} {x : DataW H × List MemPlace} (h : DataW.trod enc Try.prog w base spare held fuel 63 cs = some x) : ∃ (s : St) (hs : List (Option Addr × Nat)) (A D : Option Addr) (c d : Nat), cs = [.slice A s.flash.length c, .slice D s.disk.length d] ∧ s.flash.length ≤ maxLen ∧ (∀ b ∈ s.flash, b.pages.length ≤ maxLen) ∧ s.disk.length ≤ maxLen ∧ RBks w A s.flash hs ∧ RRow w D (ints s.disk) := by
  obtain ⟨xs, n, _, _, hl, hx, hf⟩ := DataW.trod_struct Try.underlying63 h
  rw [cellsOf_lstore] at hl
  match cs, hl with
  | [c0, c1], _ =>
    match xs, hx with
    | [y0, y1], _ =>
      have h0 := hf 0 _ rfl
      have h1 := hf 1 _ rfl
      simp [cellsOf_lblocks] at h0
      simp [cellsOf_ints] at h1
      obtain ⟨A, c, f, hs, e0, hl0, hp0, hF⟩ := blocks_of h0
      obtain ⟨D, d, zs, e1, hl1, hD⟩ := ints_of h1
      simp at e0 e1
      subst e0; subst e1
      exact ⟨⟨f, zs⟩, hs, A, D, c, d, rfl, hl0, hp0, hl1, hF, hD⟩
end
end Go.Proofs.Ytbekihiiildgmaa
namespace Go.Proofs.Ytbekihiiildgmaa
set_option linter.unusedVariables false
set_option linter.unusedSimpArgs false
open Go.RowKit Go.ChangeShapes Go.WideShapes Go.Deep
set_option maxRecDepth 100000
section
variable {H : Type} {enc : TypeId × Value → H} {w : World} {base fuel : Nat} {spare : Nat → Bool} {held : Bool}
theorem cellsOf_lstep : Try.prog.cellsOf 127 = 8 := by kernel_rfl
theorem lstep_of {cs : List Value} {x : DataW H × List MemPlace} (h : DataW.trod enc Try.prog w base spare held fuel 127 cs = some x) : ∃ p : Sp, cs = p.vs := by
  obtain ⟨xs, n, _, _, hl, hx, hf⟩ := DataW.trod_struct Try.underlying127 h
  rw [cellsOf_lstep] at hl
  match cs, hl with
  | [c0, c1, c2, c3, c4, c5, c6, c7], _ =>
    match xs, hx with
    | [y0, y1, y2, y3, y4], _ =>
      have h0 := hf 0 _ rfl
      have h1 := hf 1 _ rfl
      have h2 := hf 2 _ rfl
      have h3 := hf 3 _ rfl
      have h4 := hf 4 _ rfl
      simp [cellsOf_int] at h0 h1 h2 h3
      simp [cellsOf_lrec] at h4
      obtain ⟨a, e0, _⟩ := DataW.trod_int Try.underlying3 h0
      obtain ⟨b, e1, _⟩ := DataW.trod_int Try.underlying3 h1
      obtain ⟨c, e2, _⟩ := DataW.trod_int Try.underlying3 h2
      obtain ⟨d, e3, _⟩ := DataW.trod_int Try.underlying3 h3
      obtain ⟨r, e4⟩ := rec_of h4
      simp [Rc.vs] at e0 e1 e2 e3 e4
      obtain ⟨rfl, rfl, rfl, rfl⟩ := e4
      subst e0; subst e1; subst e2; subst e3
      exact ⟨⟨a, b, c, d, r⟩, rfl⟩
theorem steps_of {cs : List Value} {x : DataW H × List MemPlace} (h : DataW.trod enc Try.prog w base spare held fuel 64 cs = some x) : ∃ A c ps, cs = [.slice A (List.length ps) c] ∧ List.length ps ≤ maxLen ∧ RRow w A (sps ps) := by
  rcases open_slice Try.underlying64 h with ⟨rfl, _⟩ | ⟨a, len, cap, m, n, D, Pl, rfl, _, hlc, hcm, hm, _, hi⟩
  · exact ⟨none, 0, [], rfl, Nat.zero_le _, fun h => absurd rfl h⟩
  · have hlm : len ≤ m := by rw [hm]; split <;> omega
    obtain ⟨ps, hps, hr⟩ := rrow_of (α := Sp) (w := w) (a := a) (n := len) Sp.vs 8 (fun _ => rfl) (by omega) (fun i hlt => by
      obtain ⟨cs', hc, ht⟩ := hi i (by omega)
      obtain ⟨p, rfl⟩ := lstep_of ht
      obtain ⟨_, hl, hcell⟩ := World.cells?_some hc
      refine ⟨p, fun j u hj => ?_⟩
      have hj8 : j < 8 := (List.getElem?_eq_some_iff.1 hj).1
      have := hcell j (by rw [cellsOf_lstep]; exact hj8)
      rw [cellsOf_lstep] at this
      rw [← Go.Deep.add_add, this, hj])
    exact ⟨some a, cap, ps, by rw [hps], by omega, hr⟩
end
end Go.Proofs.Ytbekihiiildgmaa
