/- What the laws' walks share: words, plain laws, and the walks of functions, part 9. -/
import Derived.Below
import Derived.ChangeSame
import Derived.WalkKit
import Derived.ProofKit
import Derived.Carry
import Derived.Test.YtbekihiiildgmaaProg
import Derived.Deep.Slices
import Derived.ChangeSlices
import Derived.ChangeArms
import Derived.Test.YtbekihiiildgmaaW8
namespace Go.Proofs.Ytbekihiiildgmaa
set_option linter.unusedVariables false
set_option linter.unusedSimpArgs false
open Go.RowKit Go.Maps
set_option maxHeartbeats 400000
theorem Try.info3_int' : (Try.prog.info? 3).map (fun i => (i.zero, i.size, i.bytes)) = some (some (.int .i64 0), 1, 8) := by kernel_rfl
theorem ints_one' (xs : List Int) : ∀ u ∈ ints xs, u.oneCell' = true := fun u hu => by
  obtain ⟨x, _, rfl⟩ := List.mem_map.1 hu
  rfl
theorem own_below {w w' : World} {base size n : Nat} {e : TypeId} {v : Value} {xs : List Value} (h : w.ownsRow base e size v n xs) (hb : base ≤ w.heap.size) (hg : w.grownBy w' v.ownBlock) : Below base w w' :=
  ((Agr.refl (fun b => v.ownBlock = some b) w).grown hg (fun g hg => .inr hg)).below hb (fun b hb => (World.ownsRow.lt h b hb).1)
theorem OwnI.one (w : World) (base : Nat) (x : Int) (hb : base ≤ w.heap.size) : OwnI (w.alloc (.cells #[.int .i64 x] 3)) base (.slice (some ⟨w.heap.size, 0, none⟩) 1 1) [x] := World.ownsRow_lit w #[.int .i64 x] 1 hb (by unfold maxLen; omega) rfl
/-- the events, made whole one by one -/
def wholeTo (es : List Ev) (k : Nat) : List Ev := (es.take k).map wholeEv ++ es.drop k
theorem wholeTo_len (es : List Ev) (k : Nat) : (wholeTo es k).length = es.length := by unfold wholeTo; rw [List.length_append, List.length_map, List.length_take, List.length_drop]; omega
theorem wholeTo_get {es : List Ev} {k : Nat} {x : Ev} (h : es[k]? = some x) : (wholeTo es k)[k]? = some x := by
  have hl := (List.getElem?_eq_some_iff.1 h).1
  unfold wholeTo
  rw [List.getElem?_append_right (by rw [List.length_map, List.length_take]; omega), List.length_map, List.length_take, show k - min k es.length = 0 by omega, List.getElem?_drop]
  exact h
theorem wholeTo_set {es : List Ev} {k : Nat} {x : Ev} (h : es[k]? = some x) : (wholeTo es k).set k (wholeEv x) = wholeTo es (k + 1) := by
  have hl := (List.getElem?_eq_some_iff.1 h).1
  unfold wholeTo
  rw [List.set_append_right _ _ (by rw [List.length_map, List.length_take]; omega), List.length_map, List.length_take, show k - min k es.length = 0 by omega, List.take_add_one, h, drop_cons h]
  simp
theorem evs_whole : ∀ {l : List Ev} {k : Nat} {x : Ev}, l[k]? = some x → evs (l.set k (wholeEv x)) = setL (evs l) (k * 5 + 3) [.int .i64 60, .bool false]
  | [], _, _, h => by simp at h
  | y :: l, 0, x, h => by simp at h; subst h; rfl
  | y :: l, k + 1, x, h => by
    have := evs_whole (l := l) (k := k) (x := x) (by simpa using h)
    show y.vs ++ evs (l.set k (wholeEv x)) = setL (y.vs ++ evs l) ((k + 1) * 5 + 3) _
    rw [this, show (k + 1) * 5 + 3 = y.vs.length + (k * 5 + 3) by simp [Ev.vs]; omega, setL_right]
/-- event k was made whole: two cells written -/
theorem Row.whole {w w' : World} {b k : Nat} {es : List Ev} {x : Ev} (h : Row w (some ⟨b, 0, none⟩) (evs (wholeTo es k))) (hx : es[k]? = some x) (hW : Wrote w w' b (k * 5 + 3) [.int .i64 60, .bool false]) : Row w' (some ⟨b, 0, none⟩) (evs (wholeTo es (k + 1))) := by
  have hl := (List.getElem?_eq_some_iff.1 hx).1
  rw [← wholeTo_set hx, evs_whole (wholeTo_get hx)]
  refine Wrote.row (w := w) (by rw [Nat.zero_add]; exact hW) h ?_
  rw [evs_len, wholeTo_len]
  simp
  omega
end Go.Proofs.Ytbekihiiildgmaa
namespace Go.Proofs.Ytbekihiiildgmaa
set_option linter.unusedVariables false
set_option linter.unusedSimpArgs false
open Go.RowKit Go.Maps
set_option maxHeartbeats 400000
/-- 'append(dst, src...)' of numbers, a step of a region -/
theorem step_ints {ops : Array Oper} {o : Oper} {a : Act} {K : Act → World → Prop} {Q : Exit → Act → World → Prop} {E : Prop} {w : World} (hgd : o.guard = none) (s x : Operand)
    (ho : o.op = .call { callee := .builtin .append, args := #[s, x], argTypes := #[24, 24] }) (base : Nat) (v : Value) (ys xs : List Int) (hs : a.eval s = v) (hO : OwnI w base v ys)
    (b p m n c : Nat) (hx : a.eval x = .slice (some ⟨b, p, none⟩) m c) (hm : m = xs.length) (hn : n = ys.length + m) (hR : Row w (some ⟨b, p, none⟩) (ints xs)) (h0 : 0 < m) (h63 : n ≤ 1000000) (hbase : base ≤ w.heap.size)
    (h : ∀ g cap w', OwnI w' base (.slice (some ⟨g, 0, none⟩) n cap) (ys ++ xs) → Below base w w' → (v.ownBlock = some g ∨ g = w.heap.size) → Agr (fun b => v.ownBlock = some b) w w' → K (a.put o.dst (.slice (some ⟨g, 0, none⟩) n cap)) w') : if Region.wanted o (yielded ops a.tmps) = true then Oper.wp Try.prog o a w K Q else E := by
  obtain ⟨ib, hib, hbz0, hbz1, hbz2⟩ := info_parts Try.info3_int'
  subst hn; subst hm
  refine step_append_lies w hgd s x _ ho base 3 ib _ 1 8 Try.underlying24 hib hbz0 hbz1 hbz2 rfl (by omega) v ys.length (ints ys) hs hO ⟨b, p, none⟩ xs.length c (ints xs) hx (by rw [ints_len]; omega) hR.news (ints_one' xs) h0 (by unfold maxLen; omega) (by omega) hbase w.heap.size rfl ?_
  intro g cap w' h1 h2 h3 h4
  refine h g cap w' ?_ (own_below hO hbase h2) h3 ((Agr.refl _ w).grown h2 (fun g hg => .inr hg))
  unfold OwnI
  rw [List.length_append, show ints (ys ++ xs) = ints ys ++ ints xs from List.map_append]
  exact h1
/-- a store of one's own, as many blocks and numbers as there are to be -/
def CopyPost (s : St) (w : World) (e : Ending) (w' : World) : Prop :=
  ∃ A c D d, e = .returned (.agg #[.slice A 4 c, .slice D 6 d]) ∧ OSt w' w.heap.size w'.heap.size A s.flash D s.disk ∧ Below w.heap.size w w'
set_option maxHeartbeats 4000000 in
set_option maxRecDepth 100000 in
theorem spec_l11Copy (s : St) (A D : Option Addr) (c d : Nat) (w : World) (hs : stFine s) (hF : Fl w A s.flash) (hD : Row w D (ints s.disk)) :
    Calls Try.prog 63 #[.agg #[.slice A 4 c, .slice D 6 d]] w (CopyPost s w) := by
  have h6 := hs.2.1
  have HS := Lib.hid hs
  obtain ⟨db, dO, rfl⟩ := hD.addr (ints_ne' (by intro e; rw [e] at h6; simp at h6))
  have H6 := Lib.hid h6
  clear hs h6
  obtain ⟨V, hV⟩ : ∃ V, ((w.alloc (.cells #[.slice A 4 c, .slice (some ⟨db, dO, none⟩) 6 d] 26)).alloc (.cells #[.slice none 0 0, .slice none 0 0] 26)) = V := ⟨_, rfl⟩
  have hB0 : Below w.heap.size w V := by rw [← hV]; (repeat (first | (with_reducible exact Below.refl _ _) | (with_reducible assumption) | (refine Below.setCell ?_ (by first | omega | exact hB.size | exact hb.size | (have h := hB.size; simp; omega) | (have h := hb.size; simp; omega) | (simp; omega) | simp) _) | (refine Below.alloc ?_ (by first | omega | exact hB.size | exact hb.size | (have h := hB.size; simp; omega) | (have h := hb.size; simp; omega) | (simp; omega) | simp) _) | (refine Below.drew ?_)))
  have hsV : V.heap.size = w.heap.size + 2 := by rw [← hV]; simp
  have x0 : V.cell? ⟨w.heap.size, 0, none⟩ = some (.slice A 4 c) := by rw [← hV]; simp [go_sem]
  have x1 : V.cell? ⟨w.heap.size, 1, none⟩ = some (.slice (some ⟨db, dO, none⟩) 6 d) := by rw [← hV]; simp [go_sem]
  have hN := Row.new (w.alloc (.cells #[.slice A 4 c, .slice (some ⟨db, dO, none⟩) 6 d] 26)) #[.slice none 0 0, .slice none 0 0] 26
  rw [hV] at hN
  simp only [World.size_alloc] at hN
  obtain ⟨r0, q0⟩ := hN.at0 (j := 0) rfl
  obtain ⟨r1, q1⟩ := hN.at0 (j := 1) rfl
  have hbox := Lib.hid (fun X (h : Below V.drew.heap.size V.drew X) => (⟨(h.cell (p := ⟨w.heap.size, 0, none⟩) (by show w.heap.size < V.heap.size; omega)).trans x0, (h.cell (p := ⟨w.heap.size, 1, none⟩) (by show w.heap.size < V.heap.size; omega)).trans x1⟩ : X.cell? ⟨w.heap.size, 0, none⟩ = some (.slice A 4 c) ∧ X.cell? ⟨w.heap.size, 1, none⟩ = some (.slice (some ⟨db, dO, none⟩) 6 d)))
  have hres := Lib.hid (fun X (h : Below V.drew.heap.size V.drew X) => (⟨(h.cell (p := ⟨w.heap.size + 1, 0, none⟩) (by show w.heap.size + 1 < V.heap.size; omega)).trans r0, (h.cell (p := ⟨w.heap.size + 1, 1, none⟩) (by show w.heap.size + 1 < V.heap.size; omega)).trans r1, (h.frozen (p := ⟨w.heap.size + 1, 0, none⟩) (by show w.heap.size + 1 < V.heap.size; omega)).trans q0, (h.frozen (p := ⟨w.heap.size + 1, 1, none⟩) (by show w.heap.size + 1 < V.heap.size; omega)).trans q1⟩ : X.cell? ⟨w.heap.size + 1, 0, none⟩ = some (.slice none 0 0) ∧ X.cell? ⟨w.heap.size + 1, 1, none⟩ = some (.slice none 0 0) ∧ X.frozen? ⟨w.heap.size + 1, 0, none⟩ = false ∧ X.frozen? ⟨w.heap.size + 1, 1, none⟩ = false))
  have hFx := Lib.hid (fun X (h : Below V.drew.heap.size V.drew X) => (hF.below hB0 (Nat.le_refl _)).drew'.below h (Nat.le_refl _))
  have hDx := Lib.hid (fun X (h : Below V.drew.heap.size V.drew X) => (hD.below hB0 (Nat.le_refl _)).drew.below h (Nat.le_refl _))
  have hvb : Below V.drew.heap.size V.drew V.drew := Below.refl _ _
  have hvd : Below w.heap.size w V.drew := hB0.drew
  have HV := Lib.hid hsV
  clear x0 x1 hN r0 r1 q0 q1 hF hD hB0 hsV
  go_enter Try.func63, Try.ntmps63
  go_wp2
  (try rw [hV])
  refine wp_region_held_drew (S := fun X => X.cell? ⟨w.heap.size, 0, none⟩ = some (.slice A 4 c) ∧ X.cell? ⟨w.heap.size, 1, none⟩ = some (.slice (some ⟨db, dO, none⟩) 6 d)) (by kernel_rfl) (hbox.out _ hvb) (fun hHeld0 => ?_)
  refine wpAnyH_take (i := 0) (v := ?vc1) rfl (by kernel_rfl) (by kernel_rfl) (by kernel_rfl) (fun _ _ _ h => h) (Or.inl ⟨by kernel_rfl, ?yc1⟩) hHeld0 ?rc1
  case yc1 => (intro w' hS; (try dsimp only at hS); obtain ⟨s0, s1⟩ := hS; (try go_simp); (try with_reducible rfl))
  try simp only [Act.put, jA, jB, jC, jD, jE, jF]
  refine wpAnyH_take (i := 1) (v := ?vc2) rfl (by kernel_rfl) (by kernel_rfl) (by kernel_rfl) (fun _ _ _ h => h) (Or.inl ⟨by kernel_rfl, ?yc2⟩) hHeld0 ?rc2
  case yc2 => (intro w' hS; (try dsimp only at hS); obtain ⟨s0, s1⟩ := hS; (try go_simp); (try with_reducible rfl))
  try simp only [Act.put, jA, jB, jC, jD, jE, jF]
  refine wpAnyH_take (i := 4) (v := ?vc3) rfl (by kernel_rfl) (by kernel_rfl) (by kernel_rfl) (fun _ _ _ h => h) (Or.inl ⟨by kernel_rfl, ?yc3⟩) hHeld0 ?rc3
  case yc3 => (intro w' hS; (try dsimp only at hS); obtain ⟨s0, s1⟩ := hS; (try go_simp); (try with_reducible rfl))
  try simp only [Act.put, jA, jB, jC, jD, jE, jF]
  refine wpAnyH_take (i := 5) (v := ?vc4) rfl (by kernel_rfl) (by kernel_rfl) (by kernel_rfl) (fun _ _ _ h => h) (Or.inl ⟨by kernel_rfl, ?yc4⟩) hHeld0 ?rc4
  case yc4 => (intro w' hS; (try dsimp only at hS); obtain ⟨s0, s1⟩ := hS; (try go_simp); (try with_reducible rfl))
  try simp only [Act.put, jA, jB, jC, jD, jE, jF]
  refine wpAnyH_ready (rs := [2, 3]) (by kernel_rfl) (by simp) ?_
  refine AllReadyH.cons rfl (fun K hK => ?_) (AllReadyH.cons rfl (fun K hK => ?_) AllReadyH.nil)
  · go_simp
    refine (spec_l2Copy A c s.flash _ HS.out.1.1 (fun b hb => (HS.out.1.2 b hb).1) (hFx.out _ hvb)).mono ?_
    rintro e w2 ⟨g, c2, rfl, hc2, hO2, hc⟩
    have hb2 := hvb.trans (hc.mono hvb.size)
    have hz2 := hc.size
    clear hc
    go_wp2_with fail
    refine hK.out _ _ ((hbox.out _ hb2)) (fun hHc1 => ?_)
    clear hK K
    try simp only [Act.put, jA, jB, jC, jD, jE, jF]
    refine wpAnyH_ready (rs := [3]) (by kernel_rfl) (by simp) ?_
    refine AllReadyH.cons rfl (fun K hK => ?_) AllReadyH.nil
    go_simp
    have hb3 := hb2.alloc hb2.size (.cells #[] 3)
    have hOI : OwnI (w2.alloc (.cells #[] 3)) w2.heap.size (.slice (some ⟨w2.heap.size, 0, none⟩) 0 0) [] := OwnI.lit w2 _ (Nat.le_refl _)
    have hz3 : (w2.alloc (.cells #[] 3)).heap.size = w2.heap.size + 1 := by simp
    replace hO2 := hO2.alloc (.cells #[] 3)
    refine hK.out _ _ ((hbox.out _ hb3)) (fun hHc2 => ?_)
    clear hK K
    try simp only [Act.put, jA, jB, jC, jD, jE, jF]
    refine wpAnyH_ready (rs := [6]) (by kernel_rfl) (by simp) ?_
    refine AllReadyH.cons rfl (fun K hK => ?_) AllReadyH.nil
    refine step_ints rfl (.tmp 6) (.tmp 8) rfl w2.heap.size (.slice (some ⟨w2.heap.size, 0, none⟩) 0 0) [] s.disk rfl hOI db dO 6 6 d rfl H6.out.symm (by simp) (hDx.out _ hb3) (by omega) (by omega) (by rw [hz3]; omega) ?_
    intro g7 c7 w7 hO7 hB7 hg7 hA7
    rw [List.nil_append] at hO7
    have hb7 : Below V.drew.heap.size V.drew w7 := hb3.trans (hB7.mono (by have h1 := hb3.size; have h2 := hb2.size; omega))
    have hO9 : OFl w7 V.heap.size w2.heap.size (some ⟨g, 0, none⟩) s.flash := hO2.keep fun b h1 h2 hl => hB7.block b h2
    have hgd : g7 < V.heap.size ∨ w2.heap.size ≤ g7 := .inr ((hO7.out.elim fun A h => h.elim fun c h => by have e := h.1; simp only [Value.slice.injEq] at e; have := h.2.2.1 g7 (by rw [← e.1]; exact blk_some.2 rfl); omega))
    refine hK.out _ _ ((hbox.out _ hb7)) (fun hHc3 => ?_)
    clear hK K
    try simp only [Act.put, jA, jB, jC, jD, jE, jF]
    refine wpAnyH_take (i := 7) (v := ?vc5) rfl (by kernel_rfl) (by kernel_rfl) (by kernel_rfl) (fun _ _ _ h => h) (Or.inl ⟨by kernel_rfl, ?yc5⟩) hHc3 ?rc5
    case yc5 => (intro w' hS; (try dsimp only at hS); obtain ⟨s0, s1⟩ := hS; (try go_simp); (try with_reducible rfl))
    try simp only [Act.put, jA, jB, jC, jD, jE, jF]
    refine wpAnyH_ready (rs := [8]) (by kernel_rfl) (by simp) ?_
    refine AllReadyH.cons rfl (fun K hK => ?_) AllReadyH.nil
    obtain ⟨r0, r1, q0, q1⟩ := hres.out _ hb7
    go_simp
    have hWs := laid_cells r0 r1 (.slice (some ⟨g, 0, none⟩) 4 c2) (.slice (some ⟨g7, 0, none⟩) 6 c7)
    have hbk := hbox.out _ hb7
    have hbx : ((w7.setCell ⟨w.heap.size + 1, 0, none⟩ (.slice (some ⟨g, 0, none⟩) 4 c2)).setCell ⟨w.heap.size + 1, 1, none⟩ (.slice (some ⟨g7, 0, none⟩) 6 c7)).cell? ⟨w.heap.size, 0, none⟩ = some (.slice A 4 c) ∧ ((w7.setCell ⟨w.heap.size + 1, 0, none⟩ (.slice (some ⟨g, 0, none⟩) 4 c2)).setCell ⟨w.heap.size + 1, 1, none⟩ (.slice (some ⟨g7, 0, none⟩) 6 c7)).cell? ⟨w.heap.size, 1, none⟩ = some (.slice (some ⟨db, dO, none⟩) 6 d) := ⟨(hWs.agr.cell (b := w.heap.size) (lt_of_cell hbk.1) (by omega) 0).trans hbk.1, (hWs.agr.cell (b := w.heap.size) (lt_of_cell hbk.1) (by omega) 1).trans hbk.2⟩
    refine hK.out _ _ (hbx) (fun hHc4 => ?_)
    clear hK K
    try simp only [Act.put, jA, jB, jC, jD, jE, jF]
    refine wpAnyH_done (by kernel_rfl) ?_ _
    have hz7 := hb7.size
    have hVz := HV.out
    have hVd : V.drew.heap.size = V.heap.size := rfl
    obtain ⟨_, _, e7, hR7, hbk7, _⟩ := hO7.out
    simp only [Value.slice.injEq] at e7
    obtain ⟨rfl, -, rfl⟩ := e7
    have hgl := hbk7 g7 (blk_some.2 rfl)
    have hst : OSt w7 V.heap.size w7.heap.size (some ⟨g, 0, none⟩) s.flash (some ⟨g7, 0, none⟩) s.disk := OSt.mk' hO9 hR7 (Nat.le_refl _) (by have := hb2.size; have := hA7.size; omega) (by have h := hgl.1; have := hb2.size; omega) hgl.2 (by omega)
    have hBf := hvd.trans (hb7.mono (by omega))
    have r2 := hWs.new_ 0 _ rfl
    have r3 := hWs.new_ 1 _ rfl
    have hOf := hst.keep (w' := ((w7.setCell ⟨w.heap.size + 1, 0, none⟩ (.slice (some ⟨g, 0, none⟩) 4 c2)).setCell ⟨w.heap.size + 1, 1, none⟩ (.slice (some ⟨g7, 0, none⟩) 6 c7))) fun b h1 h2 hl => hWs.agr.block b hl (by omega)
    have hBg := hBf.trans (hWs.agr.below (B := w.heap.size) (by omega) (fun i hi => by omega))
    have hsz := hWs.size
    clear hWs hst
    go_wp2
    exact bodyPost_ret (v := .agg #[.slice (some ⟨g, 0, none⟩) 4 c2, .slice (some ⟨g7, 0, none⟩) 6 c7]) (by simp [results, Try.results63, go_sem, r2, r3, r0, r1]) rfl ⟨_, _, _, _, rfl, hOf.mono (by omega) (by omega), hBg⟩
  · go_simp
    have hb3 := hvb.alloc hvb.size (.cells #[] 3)
    have hOI : OwnI (V.drew.alloc (.cells #[] 3)) V.drew.heap.size (.slice (some ⟨V.drew.heap.size, 0, none⟩) 0 0) [] := OwnI.lit V.drew _ (Nat.le_refl _)
    have hz3 : (V.drew.alloc (.cells #[] 3)).heap.size = V.drew.heap.size + 1 := by simp
    refine hK.out _ _ ((hbox.out _ hb3)) (fun hHc5 => ?_)
    clear hK K
    try simp only [Act.put, jA, jB, jC, jD, jE, jF]
    refine wpAnyH_ready (rs := [2]) (by kernel_rfl) (by simp) ?_
    refine AllReadyH.cons rfl (fun K hK => ?_) AllReadyH.nil
    go_simp
    refine (spec_l2Copy A c s.flash _ HS.out.1.1 (fun b hb => (HS.out.1.2 b hb).1) (hFx.out _ hb3)).mono ?_
    rintro e w2 ⟨g, c2, rfl, hc2, hO2, hc⟩
    have hb2 := hb3.trans (hc.mono hb3.size)
    have hz2 := hc.size
    replace hOI := hOI.below hc (Nat.le_refl _)
    clear hc
    go_wp2_with fail
    refine hK.out _ _ ((hbox.out _ hb2)) (fun hHc6 => ?_)
    clear hK K
    try simp only [Act.put, jA, jB, jC, jD, jE, jF]
    refine wpAnyH_ready (rs := [6]) (by kernel_rfl) (by simp) ?_
    refine AllReadyH.cons rfl (fun K hK => ?_) AllReadyH.nil
    refine step_ints rfl (.tmp 6) (.tmp 8) rfl V.drew.heap.size (.slice (some ⟨V.heap.size, 0, none⟩) 0 0) [] s.disk rfl hOI db dO 6 6 d rfl H6.out.symm (by simp) (hDx.out _ hb2) (by omega) (by omega) (by have := hb2.size; exact this) ?_
    intro g7 c7 w7 hO7 hB7 hg7 hA7
    rw [List.nil_append] at hO7
    have hb7 : Below V.drew.heap.size V.drew w7 := hb2.trans (hB7.mono (by have h1 := hb2.size; exact Nat.le_refl _))
    have hgq : g7 = V.heap.size ∨ g7 = w2.heap.size := by
      rcases hg7 with h | h
      · left; simpa [Value.ownBlock] using h.symm
      · right; exact h
    have hO9 : OFl w7 (V.heap.size + 1) w2.heap.size (some ⟨g, 0, none⟩) s.flash := by
      have hO2' : OFl w2 (V.heap.size + 1) w2.heap.size (some ⟨g, 0, none⟩) s.flash := hO2.mono (by simp) (Nat.le_refl _)
      exact hO2'.keep fun b h1 h2 hl => hA7.block b hl (by simp only [Value.ownBlock]; intro e; cases e; omega)
    refine hK.out _ _ ((hbox.out _ hb7)) (fun hHc7 => ?_)
    clear hK K
    try simp only [Act.put, jA, jB, jC, jD, jE, jF]
    refine wpAnyH_take (i := 7) (v := ?vc6) rfl (by kernel_rfl) (by kernel_rfl) (by kernel_rfl) (fun _ _ _ h => h) (Or.inl ⟨by kernel_rfl, ?yc6⟩) hHc7 ?rc6
    case yc6 => (intro w' hS; (try dsimp only at hS); obtain ⟨s0, s1⟩ := hS; (try go_simp); (try with_reducible rfl))
    try simp only [Act.put, jA, jB, jC, jD, jE, jF]
    refine wpAnyH_ready (rs := [8]) (by kernel_rfl) (by simp) ?_
    refine AllReadyH.cons rfl (fun K hK => ?_) AllReadyH.nil
    obtain ⟨r0, r1, q0, q1⟩ := hres.out _ hb7
    go_simp
    have hWs := laid_cells r0 r1 (.slice (some ⟨g, 0, none⟩) 4 c2) (.slice (some ⟨g7, 0, none⟩) 6 c7)
    have hbk := hbox.out _ hb7
    have hbx : ((w7.setCell ⟨w.heap.size + 1, 0, none⟩ (.slice (some ⟨g, 0, none⟩) 4 c2)).setCell ⟨w.heap.size + 1, 1, none⟩ (.slice (some ⟨g7, 0, none⟩) 6 c7)).cell? ⟨w.heap.size, 0, none⟩ = some (.slice A 4 c) ∧ ((w7.setCell ⟨w.heap.size + 1, 0, none⟩ (.slice (some ⟨g, 0, none⟩) 4 c2)).setCell ⟨w.heap.size + 1, 1, none⟩ (.slice (some ⟨g7, 0, none⟩) 6 c7)).cell? ⟨w.heap.size, 1, none⟩ = some (.slice (some ⟨db, dO, none⟩) 6 d) := ⟨(hWs.agr.cell (b := w.heap.size) (lt_of_cell hbk.1) (by omega) 0).trans hbk.1, (hWs.agr.cell (b := w.heap.size) (lt_of_cell hbk.1) (by omega) 1).trans hbk.2⟩
    refine hK.out _ _ (hbx) (fun hHc8 => ?_)
    clear hK K
    try simp only [Act.put, jA, jB, jC, jD, jE, jF]
    refine wpAnyH_done (by kernel_rfl) ?_ _
    have hz7 := hb7.size
    have hVz := HV.out
    have hVd : V.drew.heap.size = V.heap.size := rfl
    obtain ⟨_, _, e7, hR7, hbk7, _⟩ := hO7.out
    simp only [Value.slice.injEq] at e7
    obtain ⟨rfl, -, rfl⟩ := e7
    have hgl := hbk7 g7 (blk_some.2 rfl)
    have hst : OSt w7 V.heap.size w7.heap.size (some ⟨g, 0, none⟩) s.flash (some ⟨g7, 0, none⟩) s.disk := OSt.mk' hO9 hR7 (by omega) (by have := hb2.size; have := hA7.size; omega) (by have h := hgl.1; omega) hgl.2 (by omega)
    have hBf := hvd.trans (hb7.mono (by omega))
    have r2 := hWs.new_ 0 _ rfl
    have r3 := hWs.new_ 1 _ rfl
    have hOf := hst.keep (w' := ((w7.setCell ⟨w.heap.size + 1, 0, none⟩ (.slice (some ⟨g, 0, none⟩) 4 c2)).setCell ⟨w.heap.size + 1, 1, none⟩ (.slice (some ⟨g7, 0, none⟩) 6 c7))) fun b h1 h2 hl => hWs.agr.block b hl (by omega)
    have hBg := hBf.trans (hWs.agr.below (B := w.heap.size) (by omega) (fun i hi => by omega))
    have hsz := hWs.size
    clear hWs hst
    go_wp2
    exact bodyPost_ret (v := .agg #[.slice (some ⟨g, 0, none⟩) 4 c2, .slice (some ⟨g7, 0, none⟩) 6 c7]) (by simp [results, Try.results63, go_sem, r2, r3, r0, r1]) rfl ⟨_, _, _, _, rfl, hOf.mono (by omega) (by omega), hBg⟩
end Go.Proofs.Ytbekihiiildgmaa
open Go.RowKit Go.IntWalk Go.Maps
namespace Go.Proofs.Ytbekihiiildgmaa
set_option linter.unusedVariables false
set_option linter.unusedSimpArgs false
set_option maxHeartbeats 4000000
set_option maxRecDepth 100000
theorem four_cells {W X : World} {b : Nat} {u v : Value} (h : Below W.heap.size W X) (hb : b < W.heap.size) (h0 : W.cell? ⟨b, 0, none⟩ = some u) (h1 : W.cell? ⟨b, 1, none⟩ = some v) (f0 : W.frozen? ⟨b, 0, none⟩ = false) (f1 : W.frozen? ⟨b, 1, none⟩ = false) :
    X.cell? ⟨b, 0, none⟩ = some u ∧ X.cell? ⟨b, 1, none⟩ = some v ∧ X.frozen? ⟨b, 0, none⟩ = false ∧ X.frozen? ⟨b, 1, none⟩ = false :=
  ⟨(h.cell (p := ⟨b, 0, none⟩) hb).trans h0, (h.cell (p := ⟨b, 1, none⟩) hb).trans h1, (h.frozen (p := ⟨b, 0, none⟩) hb).trans f0, (h.frozen (p := ⟨b, 1, none⟩) hb).trans f1⟩
theorem toR_yes {s : St} {xs : List Sp} {cut : Int} {torn : Bool} (h1 : 0 ≤ cut) (h2 : storeOk s = true) (h3 : allB xs = true) : toR s xs cut torn = (doTo s xs cut torn, true) := by
  unfold toR
  rw [if_neg (by rintro (e | e | e); omega; rw [h2] at e; cases e; rw [h3] at e; cases e)]
theorem spec_PlayDo (s : St) (e : Ev) (A D : Option Addr) (n m c d : Nat) (w : World) (hn : n = s.flash.length) (hm : m = s.disk.length) (hl : s.flash.length < 1000000000000) (hF : Fl w A s.flash) (hD : Row w D (ints s.disk)) :
    Calls Try.prog 18 #[.agg #[.slice A n c, .slice D m d], .agg #[.int .i64 e.kind, .int .i64 e.a, .int .i64 e.b, .int .i64 e.c, .bool e.torn]] w (DoPost (plDo s e) w) := by
  have hZ : ∃ W, ((w.alloc (.cells #[.slice A n c, .slice D m d] 26)).alloc (.cells #[.int .i64 e.kind, .int .i64 e.a, .int .i64 e.b, .int .i64 e.c, .bool e.torn] 28)).alloc (.cells #[.slice none 0 0, .slice none 0 0] 26) = W := ⟨_, rfl⟩
  obtain ⟨W, hW⟩ := hZ
  have hB0 : Below w.heap.size w W := by rw [← hW]; (repeat (first | (with_reducible exact Below.refl _ _) | (with_reducible assumption) | (refine Below.setCell ?_ (by first | omega | exact hB.size | exact hb.size | (have h := hB.size; simp; omega) | (have h := hb.size; simp; omega) | (simp; omega) | simp) _) | (refine Below.alloc ?_ (by first | omega | exact hB.size | exact hb.size | (have h := hB.size; simp; omega) | (have h := hb.size; simp; omega) | (simp; omega) | simp) _) | (refine Below.drew ?_)))
  have hsW : W.heap.size = w.heap.size + 3 := by rw [← hW]; simp
  have x0 : W.cell? ⟨w.heap.size, 0, none⟩ = some (.slice A n c) := by rw [← hW]; exact cellP (cellP (by simp) _) _
  have x1 : W.cell? ⟨w.heap.size, 1, none⟩ = some (.slice D m d) := by rw [← hW]; exact cellP (cellP (by simp) _) _
  have y0 : W.cell? ⟨w.heap.size + 1, 0, none⟩ = some (.int .i64 e.kind) := by rw [← hW]; exact cellP (by simp) _
  have y1 : W.cell? ⟨w.heap.size + 1, 1, none⟩ = some (.int .i64 e.a) := by rw [← hW]; exact cellP (by simp) _
  have y2 : W.cell? ⟨w.heap.size + 1, 2, none⟩ = some (.int .i64 e.b) := by rw [← hW]; exact cellP (by simp) _
  have y3 : W.cell? ⟨w.heap.size + 1, 3, none⟩ = some (.int .i64 e.c) := by rw [← hW]; exact cellP (by simp) _
  have y4 : W.cell? ⟨w.heap.size + 1, 4, none⟩ = some (.bool e.torn) := by rw [← hW]; exact cellP (by simp) _
  have hN := Row.new ((w.alloc (.cells #[.slice A n c, .slice D m d] 26)).alloc (.cells #[.int .i64 e.kind, .int .i64 e.a, .int .i64 e.b, .int .i64 e.c, .bool e.torn] 28)) #[.slice none 0 0, .slice none 0 0] 26
  rw [hW] at hN
  simp only [World.size_alloc] at hN
  obtain ⟨r0, q0⟩ := hN.at0 (j := 0) rfl
  obtain ⟨r1, q1⟩ := hN.at0 (j := 1) rfl
  have HN := Lib.hid hn
  have HM := Lib.hid hm
  have HFW := Lib.hid (hF.below hB0 (Nat.le_refl _))
  have HDW := Lib.hid (hD.below hB0 (Nat.le_refl _))
  have HSW := Lib.hid hsW
  clear hN hn hm hF hD hsW
  go_enter Try.func18, Try.ntmps18
  go_wp2_with fail
  (try rw [hW])
  refine (spec_StoreOk s A D n m c d _ HN.out HM.out hl HFW.out HDW.out).mono ?_
  rintro r w1 ⟨rfl, hb⟩
  have hz1 := hb.size
  have hzz : w.heap.size + 2 < w1.heap.size := by have := HSW.out; omega
  have hBw : Below w.heap.size w w1 := hB0.trans (hb.mono (by have := HSW.out; omega))
  replace x0 := (hb.cell (p := ⟨w.heap.size, 0, none⟩) (by have := HSW.out; show w.heap.size < _; omega)).trans x0
  replace x1 := (hb.cell (p := ⟨w.heap.size, 1, none⟩) (by have := HSW.out; show w.heap.size < _; omega)).trans x1
  replace y0 := (hb.cell (p := ⟨w.heap.size + 1, 0, none⟩) (by have := HSW.out; show w.heap.size + 1 < _; omega)).trans y0
  replace y1 := (hb.cell (p := ⟨w.heap.size + 1, 1, none⟩) (by have := HSW.out; show w.heap.size + 1 < _; omega)).trans y1
  replace y2 := (hb.cell (p := ⟨w.heap.size + 1, 2, none⟩) (by have := HSW.out; show w.heap.size + 1 < _; omega)).trans y2
  replace y3 := (hb.cell (p := ⟨w.heap.size + 1, 3, none⟩) (by have := HSW.out; show w.heap.size + 1 < _; omega)).trans y3
  replace y4 := (hb.cell (p := ⟨w.heap.size + 1, 4, none⟩) (by have := HSW.out; show w.heap.size + 1 < _; omega)).trans y4
  obtain ⟨r0, r1, q0, q1⟩ := four_cells (b := w.heap.size + 1 + 1) hb (by have := HSW.out; omega) r0 r1 q0 q1
  have HF1 := Lib.hid (HFW.out.below hb (Nat.le_refl _))
  have HD1 := Lib.hid (HDW.out.below hb (Nat.le_refl _))
  clear hb HFW HDW hB0 hW
  by_cases hsok : storeOk s = true
  · have hfin : Hid (plDo s e = doEv s e) := by unfold Hid plDo; rw [if_pos hsok]
    have HOK := Lib.hid (storeOk_iff.1 hsok)
    obtain rfl : n = 4 := by have := HN.out; have := flashOk_len HOK.out.flash; omega
    obtain rfl : m = 6 := by have := HM.out; have := HOK.out.len; omega
    rw [hsok]
    clear hsok
    have hc : ∀ X, Below w1.drew.heap.size w1.drew X → ∀ b o, b < w1.heap.size → X.cell? ⟨b, o, none⟩ = w1.cell? ⟨b, o, none⟩ := fun X h b o hb => h.cell (p := ⟨b, o, none⟩) hb
    have hS := Lib.hid (fun X (h : Below w1.drew.heap.size w1.drew X) => (⟨(hc X h _ _ (by omega)).trans x0, (hc X h _ _ (by omega)).trans x1, (hc X h _ _ (by omega)).trans y0, (hc X h _ _ (by omega)).trans y1, (hc X h _ _ (by omega)).trans y2, (hc X h _ _ (by omega)).trans y3, (hc X h _ _ (by omega)).trans y4⟩ : X.cell? ⟨w.heap.size, 0, none⟩ = some (.slice A 4 c) ∧ X.cell? ⟨w.heap.size, 1, none⟩ = some (.slice D 6 d) ∧ X.cell? ⟨w.heap.size + 1, 0, none⟩ = some (.int .i64 e.kind) ∧ X.cell? ⟨w.heap.size + 1, 1, none⟩ = some (.int .i64 e.a) ∧ X.cell? ⟨w.heap.size + 1, 2, none⟩ = some (.int .i64 e.b) ∧ X.cell? ⟨w.heap.size + 1, 3, none⟩ = some (.int .i64 e.c) ∧ X.cell? ⟨w.heap.size + 1, 4, none⟩ = some (.bool e.torn)))
    have hR := Lib.hid (fun X (h : Below w1.drew.heap.size w1.drew X) => four_cells (W := w1.drew) (b := w.heap.size + 1 + 1) h (by show _ < w1.heap.size; omega) r0 r1 q0 q1)
    have hvb : Below w1.drew.heap.size w1.drew w1.drew := Below.refl _ _
    have hvd : Below w.heap.size w w1.drew := hBw.drew
    have HFd := Lib.hid (fun X (h : Below w1.drew.heap.size w1.drew X) => HF1.out.drew'.below h (Nat.le_refl _))
    have HDd := Lib.hid (fun X (h : Below w1.drew.heap.size w1.drew X) => HD1.out.drew.below h (Nat.le_refl _))
    have HZ := Lib.hid hzz
    clear hc x0 x1 y0 y1 y2 y3 y4 r0 r1 q0 q1 hBw HF1 HD1 hzz
    go_wp2
    refine wp_region_held_drew (S := fun X => X.cell? ⟨w.heap.size, 0, none⟩ = some (.slice A 4 c) ∧ X.cell? ⟨w.heap.size, 1, none⟩ = some (.slice D 6 d) ∧ X.cell? ⟨w.heap.size + 1, 0, none⟩ = some (.int .i64 e.kind) ∧ X.cell? ⟨w.heap.size + 1, 1, none⟩ = some (.int .i64 e.a) ∧ X.cell? ⟨w.heap.size + 1, 2, none⟩ = some (.int .i64 e.b) ∧ X.cell? ⟨w.heap.size + 1, 3, none⟩ = some (.int .i64 e.c) ∧ X.cell? ⟨w.heap.size + 1, 4, none⟩ = some (.bool e.torn)) (by kernel_rfl) (hS.out _ hvb) (fun hHeld0 => ?_)
    refine wpAnyH_take (i := 0) (v := ?vp1) rfl (by kernel_rfl) (by kernel_rfl) (by kernel_rfl) (fun _ _ _ h => h) (Or.inl ⟨by kernel_rfl, ?yp1⟩) hHeld0 ?rp1
    case yp1 => (intro w' hS; (try dsimp only at hS); obtain ⟨s0, s1, s2, s3, s4, s5, s6⟩ := hS; (try go_simp); (try with_reducible rfl))
    try simp only [Act.put, jA, jB, jC, jD, jE, jF]
    refine wpAnyH_take (i := 2) (v := ?vp2) rfl (by kernel_rfl) (by kernel_rfl) (by kernel_rfl) (fun _ _ _ h => h) (Or.inl ⟨by kernel_rfl, ?yp2⟩) hHeld0 ?rp2
    case yp2 => (intro w' hS; (try dsimp only at hS); obtain ⟨s0, s1, s2, s3, s4, s5, s6⟩ := hS; (try go_simp); (try with_reducible rfl))
    try simp only [Act.put, jA, jB, jC, jD, jE, jF]
    refine wpAnyH_ready (rs := [1]) (by kernel_rfl) (by simp) ?_
    refine AllReadyH.cons rfl (fun K hK => ?_) AllReadyH.nil
    go_simp
    refine (spec_l11Copy s A D c d _ HOK.out.fine (HFd.out _ hvb) (HDd.out _ hvb)).mono ?_
    rintro e w3 ⟨A3, c3, D3, d3, rfl, hO3, hc⟩
    have hb3 := hvb.trans (hc.mono hvb.size)
    have hz3 := hc.size
    clear hc
    go_wp2_with fail
    refine hK.out _ _ ((hS.out _ hb3)) (fun hHp1 => ?_)
    clear hK K
    try simp only [Act.put, jA, jB, jC, jD, jE, jF]
    refine wpAnyH_ready (rs := [3]) (by kernel_rfl) (by simp) ?_
    refine AllReadyH.cons rfl (fun K hK => ?_) AllReadyH.nil
    go_simp
    refine (spec_l21Do s e A3 D3 c3 d3 w1.drew.heap.size w3.heap.size _ HOK.out.fine (Nat.le_refl _) hO3).mono ?_
    rintro e w4 ⟨rfl, hO4, hA4⟩
    have hb4 : Below w1.drew.heap.size w1.drew w4 := hb3.trans (hA4.below hz3 (fun i hi => hi.1))
    obtain ⟨r0, r1, q0, q1⟩ := hR.out _ hb4
    have hz4 := hA4.size
    go_wp2_with fail
    refine hK.out _ _ ((hS.out _ hb4)) (fun hHp2 => ?_)
    clear hK K
    try simp only [Act.put, jA, jB, jC, jD, jE, jF]
    refine wpAnyH_ready (rs := [4]) (by kernel_rfl) (by simp) ?_
    refine AllReadyH.cons rfl (fun K hK => ?_) AllReadyH.nil
    go_simp
    have hF : Agr (· = w.heap.size + 1 + 1) w4 ((w4.setCell ⟨w.heap.size + 1 + 1, 0, none⟩ (.slice A3 4 c3)).setCell ⟨w.heap.size + 1 + 1, 1, none⟩ (.slice D3 6 d3)) := Agr.setCell (S := fun b => b = w.heap.size + 1 + 1) (Agr.setCell (S := fun b => b = w.heap.size + 1 + 1) (Agr.refl _ _) (p := ⟨w.heap.size + 1 + 1, 0, none⟩) (.inr rfl) _) (p := ⟨w.heap.size + 1 + 1, 1, none⟩) (.inr rfl) _
    have hz := HZ.out
    have hzd : w1.drew.heap.size = w1.heap.size := rfl
    obtain ⟨g0, g1, g2, g3, g4, g5, g6⟩ := hS.out _ hb4
    refine hK.out _ _ (⟨(hF.cell (b := w.heap.size) (by omega) (by omega) 0).trans g0, (hF.cell (b := w.heap.size) (by omega) (by omega) 1).trans g1, (hF.cell (b := w.heap.size + 1) (by omega) (by omega) 0).trans g2, (hF.cell (b := w.heap.size + 1) (by omega) (by omega) 1).trans g3, (hF.cell (b := w.heap.size + 1) (by omega) (by omega) 2).trans g4, (hF.cell (b := w.heap.size + 1) (by omega) (by omega) 3).trans g5, (hF.cell (b := w.heap.size + 1) (by omega) (by omega) 4).trans g6⟩) (fun hHp3 => ?_)
    clear hK K
    try simp only [Act.put, jA, jB, jC, jD, jE, jF]
    refine wpAnyH_done (by kernel_rfl) ?_ _
    have HT := Lib.hid (doEv_fine HOK.out.fine e)
    have hz14 : w.heap.size + 1 + 1 < w4.heap.size := by omega
    go_wp2
    refine bodyPost_ret (v := .agg #[.slice A3 4 c3, .slice D3 6 d3]) (by simp [results, Try.results18, go_sem, hz14, r0, r1]) rfl ?_
    rw [hfin.out]
    have hOf := hO4.keep (w' := ((w4.setCell ⟨w.heap.size + 1 + 1, 0, none⟩ (.slice A3 4 c3)).setCell ⟨w.heap.size + 1 + 1, 1, none⟩ (.slice D3 6 d3))) fun b h1 h2 hl => hF.block b hl (by omega)
    refine ⟨A3, c3, D3, d3, by rw [HT.out.1.1, HT.out.2.1], ?_, hOf.disk, fun b hb => by have := hOf.dlo b hb; omega, (hvd.trans (hb4.mono (by omega))).trans (hF.below (B := w.heap.size) (by omega) (fun i hi => by omega))⟩
    obtain ⟨hs, h1, h2⟩ := hOf.flAt
    exact ⟨hs, h1, fun b hb => by have := h2 b hb; omega⟩
  · have hfin : Hid (plDo s e = st0) := by unfold Hid plDo; rw [if_neg hsok]
    rw [show storeOk s = false from by simpa using hsok]
    clear hsok
    have hz2 : w.heap.size + 1 + 1 < w1.heap.size := hzz
    go_wp2
    refine bodyPost_ret (v := .agg #[.slice none 0 0, .slice none 0 0]) (by simp [results, Try.results18, go_sem, hz2, r0, r1]) rfl ?_
    rw [hfin.out]
    refine ⟨none, 0, none, 0, rfl, FlAt.nil _ _, Row.nil _ _, (fun b hb => by cases hb), ?_⟩
    refine Below.setCell (Below.setCell hBw ?_ _) ?_ _ <;> (show w.heap.size ≤ w.heap.size + 1 + 1; omega)
end Go.Proofs.Ytbekihiiildgmaa
namespace Go.Proofs.Ytbekihiiildgmaa
set_option linter.unusedVariables false
set_option linter.unusedSimpArgs false
theorem okSteps_okay {s : St} {xs : List Sp} (h : okSteps s xs ≠ []) : Okay s ∧ okSteps s xs = xs := by
  unfold okSteps at h ⊢
  split
  · rename_i hs; exact ⟨storeOk_iff.1 hs, rfl⟩
  · rename_i hs; rw [if_neg hs] at h; exact absurd rfl h
theorem ev_put (s : St) (a v c : Int) (t : Bool) : stepsOf s ⟨1, a, v, c, t⟩ = wr s.flash 1 a v := by unfold stepsOf; rw [if_pos rfl]
/-- whatever the cut, such steps are done: what StepsTo answers -/
theorem toR_steps {s : St} (h : Okay s) (e : Ev) {cut : Int} (hc : 0 ≤ cut) (torn : Bool) : toR s (stepsOf s e) cut torn = (doTo s (stepsOf s e) cut torn, true) :=
  toR_yes hc (storeOk_iff.2 h) (steps_allB h e)
theorem cut_mid {s : St} (h : Okay s) (e : Ev) {cut : Int} (hc : 0 ≤ cut) (hl : cut < (stepsOf s e).length) (torn : Bool) : Mid s (doTo s (stepsOf s e) cut torn) := by
  have hne : stepsOf s e ≠ [] := by intro e'; rw [e'] at hl; simp at hl; omega
  exact ((steps_safe h hne).to cut torn).2 (by omega)
theorem put_cut {s : St} (h : Okay s) {a v : Int} {cut : Int} (hc : 0 ≤ cut) (hl : cut < (wr s.flash 1 a v).length) (torn : Bool) : Okay (doTo s (wr s.flash 1 a v) cut torn) ∧ allV (doTo s (wr s.flash 1 a v) cut torn) = allV s := by
  have k := cut_mid h ⟨1, a, v, cut, torn⟩ hc (by rw [ev_put]; exact hl) torn
  rw [ev_put] at k
  exact ⟨k.ok, allV_same k.same⟩
end Go.Proofs.Ytbekihiiildgmaa
open Go.RowKit Go.IntWalk Go.Maps
namespace Go.Proofs.Ytbekihiiildgmaa
set_option linter.unusedVariables false
set_option linter.unusedSimpArgs false
set_option maxHeartbeats 1000000
set_option maxRecDepth 20000
theorem spec_PlaySteps (s : St) (e : Ev) (A D : Option Addr) (n m c d : Nat) (w : World) (hn : n = s.flash.length) (hm : m = s.disk.length) (hl : s.flash.length < 1000000000000) (hF : Fl w A s.flash) (hD : Row w D (ints s.disk)) :
    Calls Try.prog 25 #[.agg #[.slice A n c, .slice D m d], .agg #[.int .i64 e.kind, .int .i64 e.a, .int .i64 e.b, .int .i64 e.c, .bool e.torn]] w (StepsPost w (okSteps s (stepsOf s e))) := by
  have hB0 : Below w.heap.size w ((w.alloc (.cells #[.slice A n c, .slice D m d] 26)).alloc (.cells #[.int .i64 e.kind, .int .i64 e.a, .int .i64 e.b, .int .i64 e.c, .bool e.torn] 28)) := by (repeat (first | (with_reducible exact Below.refl _ _) | (with_reducible assumption) | (refine Below.setCell ?_ (by first | omega | exact hB.size | exact hb.size | (have h := hB.size; simp; omega) | (have h := hb.size; simp; omega) | (simp; omega) | simp) _) | (refine Below.alloc ?_ (by first | omega | exact hB.size | exact hb.size | (have h := hB.size; simp; omega) | (have h := hb.size; simp; omega) | (simp; omega) | simp) _) | (refine Below.drew ?_)))
  have HSO := Lib.hid (spec_StoreOk s A D n m c d _ hn hm hl (hF.below hB0 (Nat.le_refl _)) (hD.below hB0 (Nat.le_refl _)))
  by_cases hok : storeOk s = true
  · have hfin : Hid (okSteps s (stepsOf s e) = stepsOf s e) := by unfold Hid okSteps; rw [if_pos hok]
    obtain ⟨h4, h6, hfl, hp4, hms⟩ := ok_parts hok
    obtain rfl : n = 4 := by omega
    obtain rfl : m = 6 := by omega
    rw [hok] at HSO
    have H4 := Lib.hid h4
    have H6 := Lib.hid h6
    have HP := Lib.hid hp4
    have HM := Lib.hid hms
    have HF := Lib.hid hF
    have HD := Lib.hid hD
    clear hok h4 h6 hfl hp4 hms hm hn hl hF hD
    go_enter Try.func25, Try.ntmps25
    go_wp2_with fail
    with_reducible refine HSO.out.mono ?_
    rintro r w1 ⟨rfl, hb⟩
    have hB1 : Below w.heap.size w w1 := hB0.trans (hb.mono (by simp; omega))
    have hs1 : w.heap.size + 2 ≤ w1.heap.size := by have := hb.size; simpa using this
    obtain ⟨hcc, hff⟩ := bcell hb
    have x0 : w1.cell? ⟨w.heap.size, 0, none⟩ = some (.slice A 4 c) := (hcc _ _ (by simp <;> omega)).trans (by simp)
    have x1 : w1.cell? ⟨w.heap.size, 1, none⟩ = some (.slice D 6 d) := (hcc _ _ (by simp <;> omega)).trans (by simp)
    have y0 : w1.cell? ⟨w.heap.size + 1, 0, none⟩ = some (.int .i64 e.kind) := (hcc _ _ (by simp)).trans (by simp)
    have y1 : w1.cell? ⟨w.heap.size + 1, 1, none⟩ = some (.int .i64 e.a) := (hcc _ _ (by simp)).trans (by simp)
    have y2 : w1.cell? ⟨w.heap.size + 1, 2, none⟩ = some (.int .i64 e.b) := (hcc _ _ (by simp)).trans (by simp)
    have y3 : w1.cell? ⟨w.heap.size + 1, 3, none⟩ = some (.int .i64 e.c) := (hcc _ _ (by simp)).trans (by simp)
    have y4 : w1.cell? ⟨w.heap.size + 1, 4, none⟩ = some (.bool e.torn) := (hcc _ _ (by simp)).trans (by simp)
    clear hcc hff hb HSO hB0
    go_wp2_with fail
    with_reducible refine (spec_l21Steps s e A D c d w1 H4.out HP.out HM.out H6.out (HF.out.below hB1 (Nat.le_refl _)) (HD.out.below hB1 (Nat.le_refl _))).mono ?_
    rintro r w2 ⟨v, rfl, hO, hb2⟩
    go_wp2
    go_ret
    exact ⟨_, rfl, by rw [hfin.out]; exact hO.mono hB1.size, hB1.trans (hb2.mono hB1.size)⟩
  · have hfin : Hid (okSteps s (stepsOf s e) = []) := by unfold Hid okSteps; rw [if_neg hok]
    rw [show storeOk s = false by simpa using hok] at HSO
    clear hok hn hm hl hF hD
    go_enter Try.func25, Try.ntmps25
    go_wp2_with fail
    with_reducible refine HSO.out.mono ?_
    rintro r w1 ⟨rfl, hb⟩
    have hB1 : Below w.heap.size w w1 := hB0.trans (hb.mono (by simp; omega))
    have hz : w.heap.size ≤ w1.heap.size := hB1.size
    go_wp2
    go_ret
    exact ⟨_, rfl, by rw [hfin.out]; exact OwnS.nil _ _ (by omega), hB1.alloc hB1.size _⟩
end Go.Proofs.Ytbekihiiildgmaa
namespace Go.Proofs.Ytbekihiiildgmaa
set_option linter.unusedVariables false
set_option linter.unusedSimpArgs false
open Go.RowKit Go.Maps
set_option maxHeartbeats 400000
theorem Row.part {w : World} {V : Option Addr} {xs ys : List Value} (h : Row w V (xs ++ ys)) : Row w V xs := fun hn => by
  obtain ⟨b, o, hV, hc⟩ := h (by intro e; exact hn (List.append_eq_nil_iff.1 e).1)
  refine ⟨b, o, hV, fun j u hj => hc j u ?_⟩
  rw [List.getElem?_append_left (List.getElem?_eq_some_iff.1 hj).1]; exact hj
/-- a store in a box that may be written -/
structure HeldF (W : World) (bx : Nat) (A D : Option Addr) (c d : Nat) (s : St) : Prop where
  held : Held W bx A D 4 c 6 d s
  f0 : W.frozen? ⟨bx, 0, none⟩ = false
  f1 : W.frozen? ⟨bx, 1, none⟩ = false
theorem HeldF.below {W X : World} {bx c d B : Nat} {A D : Option Addr} {s : St} (h : HeldF W bx A D c d s) (hb : Below B W X) (hB : W.heap.size ≤ B) : HeldF X bx A D c d s :=
  ⟨h.held.below hb hB, (hb.frozen (p := ⟨bx, 0, none⟩) (Nat.lt_of_lt_of_le (lt_of_cell h.held.x0) hB)).trans h.f0, (hb.frozen (p := ⟨bx, 1, none⟩) (Nat.lt_of_lt_of_le (lt_of_cell h.held.x1) hB)).trans h.f1⟩
theorem HeldF.drew {W : World} {bx c d : Nat} {A D : Option Addr} {s : St} (h : HeldF W bx A D c d s) : HeldF W.drew bx A D c d s := ⟨h.held.drew, h.f0, h.f1⟩
theorem HeldF.new {w : World} {t : St} (ht : Okay t) {A D : Option Addr} (c d : Nat) (hF : Fl w A t.flash) (hD : Row w D (ints t.disk)) : HeldF (w.alloc (.cells #[.slice A 4 c, .slice D 6 d] 26)) w.heap.size A D c d t :=
  ⟨Held.ok ht c d hF hD, by simp, by simp⟩
theorem HeldF.put {W : World} {bx c d c' d' lo : Nat} {A D A' D' : Option Addr} {s t : St} (h : HeldF W bx A D c d s) (ht : Okay t) (hF : FlAt W lo A' t.flash) (hlo : bx < lo) (hD : Row W D' (ints t.disk)) (hd : ∀ b, blk D' b → lo ≤ b) :
    HeldF ((W.setCell ⟨bx, 0, none⟩ (.slice A' 4 c')).setCell ⟨bx, 1, none⟩ (.slice D' 6 d')) bx A' D' c' d' t := by
  have hW : Wrote W ((W.setCell ⟨bx, 0, none⟩ (.slice A' 4 c')).setCell ⟨bx, 1, none⟩ (.slice D' 6 d')) bx 0 [.slice A' 4 c', .slice D' 6 d'] := wrote_setRow bx [.slice A' 4 c', .slice D' 6 d'] 0 W (fun j hj => by
    match j, hj with
    | 0, _ => exact ⟨_, h.held.x0⟩
    | 1, _ => exact ⟨_, h.held.x1⟩)
  exact ⟨h.held.put (hF.mono (by omega)) hD (fun b hb => by have := hd b hb; omega) (flashOk_len ht.flash).symm ht.len.symm, (hW.frozen _).trans h.f0, (hW.frozen _).trans h.f1⟩
end Go.Proofs.Ytbekihiiildgmaa
namespace Go.Proofs.Ytbekihiiildgmaa
set_option linter.unusedVariables false
set_option linter.unusedSimpArgs false
open Go.RowKit Go.Maps
set_option maxHeartbeats 400000
/-- a row of steps handed back -/
def ListP (xs : List Sp) (w : World) (e : Ending) (w' : World) : Prop :=
  ∃ V cs, e = .returned (.slice V xs.length cs) ∧ Row w' V (sps xs) ∧ (∀ b, blk V b → w.heap.size ≤ b ∧ b < w'.heap.size) ∧ xs.length ≤ cs ∧ Below w.heap.size w w'
theorem StepsPost.list {xs ys : List Sp} {w w' : World} {e : Ending} (hx : xs = ys) (h : StepsPost w xs e w') : ListP ys w e w' := by
  subst hx
  obtain ⟨v, rfl, hO, hb⟩ := h
  obtain ⟨V, cs, rfl, hc, hR, hV⟩ := hO.shape'
  exact ⟨V, cs, rfl, hR, hV, hc, hb⟩
theorem ToPost.runF {t : St} {w w' : World} {e : Ending} (ht : stFine t) (h : ToPost (t, true) w e w') : RunP t w e w' := by
  obtain ⟨A, c, D, d, rfl, h1, h2, h3, h4⟩ := h
  exact ⟨A, c, D, d, by dsimp only; rw [ht.1.1, ht.2.1], h1, h2, h3, h4⟩
theorem impl_StepsTo_t {s t : St} {xs : List Sp} {cut : Int} {torn : Bool} (ht : toR s xs cut torn = (t, true)) (hf : stFine t) (hl : xs.length < 1000000000000) (A D V : Option Addr) (n m c d cs k : Nat) (w : World) (hn : n = s.flash.length) (hm : m = s.disk.length) (hk : k = xs.length) (hF : Fl w A s.flash) (hD : Row w D (ints s.disk)) (hX : Row w V (sps xs)) :
    Calls Try.prog 26 #[.agg #[.slice A n c, .slice D m d], .slice V k cs, .int .i64 cut, .bool torn] w (RunP t w) := by
  subst hk
  exact (impl_StepsTo s xs cut torn A D V n m c d cs w hn hm hl hF hD hX).mono fun _ _ q => ToPost.runF hf (by rw [ht] at q; exact q)
theorem Held.fine {w : World} {t : St} (ht : stFine t) {A D : Option Addr} (c d : Nat) (hF : Fl w A t.flash) (hD : Row w D (ints t.disk)) : Held (w.alloc (.cells #[.slice A 4 c, .slice D 6 d] 26)) w.heap.size A D 4 c 6 d t :=
  Held.new w hF hD ht.1.1.symm ht.2.1.symm
theorem impl_StepsPut_x {s : St} {a v : Int} {xs : List Sp} (hx : okSteps s (wr s.flash 1 a v) = xs) (A D : Option Addr) (n m c d : Nat) (w : World) (hn : n = s.flash.length) (hm : m = s.disk.length) (hF : Fl w A s.flash) (hD : Row w D (ints s.disk)) :
    Calls Try.prog 28 #[.agg #[.slice A n c, .slice D m d], .int .i64 a, .int .i64 v] w (ListP xs w) := (impl_StepsPut s a v A D n m c d w hn hm hF hD).mono fun _ _ q => StepsPost.list hx q
theorem spec_StepsPut_x {s : St} {a v : Int} {xs : List Sp} (hx : okSteps s (wr s.flash 1 a v) = xs) (A D : Option Addr) (n m c d : Nat) (w : World) (hn : n = s.flash.length) (hm : m = s.disk.length) (hl : s.flash.length < 1000000000000) (hF : Fl w A s.flash) (hD : Row w D (ints s.disk)) :
    Calls Try.prog 29 #[.agg #[.slice A n c, .slice D m d], .int .i64 a, .int .i64 v] w (ListP xs w) := (spec_StepsPut s a v A D n m c d w hn hm hl hF hD).mono fun _ _ q => StepsPost.list hx q
theorem impl_PlaySteps_x {s : St} {k a v c' : Int} {t : Bool} {xs : List Sp} (hx : okSteps s (stepsOf s ⟨k, a, v, c', t⟩) = xs) (A D : Option Addr) (n m c d : Nat) (w : World) (hn : n = s.flash.length) (hm : m = s.disk.length) (hF : Fl w A s.flash) (hD : Row w D (ints s.disk)) :
    Calls Try.prog 24 #[.agg #[.slice A n c, .slice D m d], .agg #[.int .i64 k, .int .i64 a, .int .i64 v, .int .i64 c', .bool t]] w (ListP xs w) := (impl_PlaySteps s ⟨k, a, v, c', t⟩ A D n m c d w hn hm hF hD).mono fun _ _ q => StepsPost.list hx q
theorem spec_PlaySteps_x {s : St} {k a v c' : Int} {t : Bool} {xs : List Sp} (hx : okSteps s (stepsOf s ⟨k, a, v, c', t⟩) = xs) (A D : Option Addr) (n m c d : Nat) (w : World) (hn : n = s.flash.length) (hm : m = s.disk.length) (hl : s.flash.length < 1000000000000) (hF : Fl w A s.flash) (hD : Row w D (ints s.disk)) :
    Calls Try.prog 25 #[.agg #[.slice A n c, .slice D m d], .agg #[.int .i64 k, .int .i64 a, .int .i64 v, .int .i64 c', .bool t]] w (ListP xs w) := (spec_PlaySteps s ⟨k, a, v, c', t⟩ A D n m c d w hn hm hl hF hD).mono fun _ _ q => StepsPost.list hx q
end Go.Proofs.Ytbekihiiildgmaa
namespace Go.Proofs.Ytbekihiiildgmaa
set_option linter.unusedVariables false
set_option linter.unusedSimpArgs false
open Go.RowKit Go.Maps
set_option maxHeartbeats 400000
/-- four cells, two boxes, kept by what writes into the reader alone -/
theorem okay_pages' {t : St} (h : Okay t) : ∀ b ∈ t.flash, b.pages.length < 1000000000000 := fun b hb => by have := (flashOk_shape h.flash b hb).1; omega
theorem agr_cells {R b : Nat} {w w' : World} (h : Agr (· = R) w w') (hb : b < w.heap.size) (hn : b ≠ R) {u v : Value} (h0 : w.cell? ⟨b, 0, none⟩ = some u) (h1 : w.cell? ⟨b, 1, none⟩ = some v) (f0 : w.frozen? ⟨b, 0, none⟩ = false) (f1 : w.frozen? ⟨b, 1, none⟩ = false) :
    w'.cell? ⟨b, 0, none⟩ = some u ∧ w'.cell? ⟨b, 1, none⟩ = some v ∧ w'.frozen? ⟨b, 0, none⟩ = false ∧ w'.frozen? ⟨b, 1, none⟩ = false :=
  ⟨(h.cell hb hn 0).trans h0, (h.cell hb hn 1).trans h1, (h.fz hb hn 0).trans f0, (h.fz hb hn 1).trans f1⟩
def FullPost (B R m : Nat) (w : World) (e : Ending) (w' : World) : Prop :=
  ∃ (A D : Option Addr) (c d : Nat) (s : St), e = .returned (.agg #[.slice A s.flash.length c, .slice D s.disk.length d]) ∧ stSmall s ∧ OSt w' w.heap.size w'.heap.size A s.flash D s.disk ∧ Rd w' B R (m + 1250) ∧ Agr (· = R) w w'
set_option maxHeartbeats 8000000 in
set_option maxRecDepth 100000 in
theorem spec_l71Full (B R m : Nat) (w : World) (hm : m ≤ 700000) (hR : Rd w B R m) :
    Calls Try.prog 57 #[.pointer (some ⟨R, 0, none⟩)] w (FullPost B R m w) := by
  have hRl := hR.lt
  have hq := Row.new w #[.slice none 0 0, .slice none 0 0] 26
  obtain ⟨q0, f0⟩ := hq.at0 (j := 0) rfl
  obtain ⟨q1, f1⟩ := hq.at0 (j := 1) rfl
  have hR0 := hR.alloc (.cells #[.slice none 0 0, .slice none 0 0] 26)
  have hs0 : (w.alloc (.cells #[.slice none 0 0, .slice none 0 0] 26)).heap.size = w.heap.size + 1 := by simp
  have hA0 : Agr (· = R) w (w.alloc (.cells #[.slice none 0 0, .slice none 0 0] 26)) := (Agr.refl _ _).alloc _
  clear hq
  go_enter Try.func57, Try.ntmps57
  go_wp2_with fail
  refine (spec_l71Store B R m _ (by omega) hR0).mono ?_
  rintro e w1 ⟨A, D, c, d, s0, rfl, hsm, hO, hR1, hA1⟩
  rw [hs0] at hO
  obtain ⟨q0, q1, f0, f1⟩ := agr_cells hA1 (b := w.heap.size) (by omega) (by omega) q0 q1 f0 f1
  have hs1 : w.heap.size + 1 ≤ w1.heap.size := by have := hA1.size; omega
  have hA1' := hA0.trans hA1 (fun _ _ h => h)
  have hb := Row.new w1 #[.slice A s0.flash.length c, .slice D s0.disk.length d] 26
  obtain ⟨b0, b2⟩ := hb.at0 (j := 0) rfl
  obtain ⟨b1, b3⟩ := hb.at0 (j := 1) rfl
  obtain ⟨W, hW⟩ : ∃ W, w1.alloc (.cells #[.slice A s0.flash.length c, .slice D s0.disk.length d] 26) = W := ⟨_, rfl⟩
  have hBW : Below w1.heap.size w1 W := by rw [← hW]; (repeat (first | (with_reducible exact Below.refl _ _) | (with_reducible assumption) | (refine Below.setCell ?_ (by first | omega | exact hB.size | exact hb.size | (have h := hB.size; simp; omega) | (have h := hb.size; simp; omega) | (simp; omega) | simp) _) | (refine Below.alloc ?_ (by first | omega | exact hB.size | exact hb.size | (have h := hB.size; simp; omega) | (have h := hb.size; simp; omega) | (simp; omega) | simp) _) | (refine Below.drew ?_)))
  have hsW : W.heap.size = w1.heap.size + 1 := by rw [← hW]; simp
  rw [hW] at b0 b1 b2 b3
  replace q0 := (hBW.cell (p := ⟨w.heap.size, 0, none⟩) (by show w.heap.size < _; omega)).trans q0
  replace q1 := (hBW.cell (p := ⟨w.heap.size, 1, none⟩) (by show w.heap.size < _; omega)).trans q1
  replace f0 := (hBW.frozen (p := ⟨w.heap.size, 0, none⟩) (by show w.heap.size < _; omega)).trans f0
  replace f1 := (hBW.frozen (p := ⟨w.heap.size, 1, none⟩) (by show w.heap.size < _; omega)).trans f1
  have hO2 := hO.below hBW (Nat.le_refl _)
  have hR2 := hR1.below hBW (Nat.le_refl _)
  have hA2 : Agr (· = R) w W := hA1'.trans (Agr.of_below (S := (· = R)) hBW) (fun _ _ h => h)
  obtain ⟨bx, hbx⟩ : ∃ b, w1.heap.size = b := ⟨_, rfl⟩
  rw [hbx] at b0 b1 b2 b3 hsW hs1 hO2
  clear hO hR1 hA1' hb hBW hA0 hR0 hs0 hA1
  go_wp2
  (try rw [hW])
  (try simp only [hbx])
  go_loopw [4] (fun i wr => ∃ (j p : Nat) (s : St), i = .int .i64 j ∧ j ≤ 12 ∧ p + 3 * (12 - j) ≤ m + 1250 ∧ Hid (stSmall s) ∧ Hid (s.flash.length = s0.flash.length ∧ s.disk.length = s0.disk.length) ∧
    OSt wr (w.heap.size + 1) bx A s.flash D s.disk ∧ Rd wr B R p ∧ Agr (· = R) w wr ∧ bx < wr.heap.size ∧
    (wr.cell? ⟨bx, 0, none⟩ = some (.slice A s0.flash.length c) ∧ wr.cell? ⟨bx, 1, none⟩ = some (.slice D s0.disk.length d) ∧ wr.frozen? ⟨bx, 0, none⟩ = false ∧ wr.frozen? ⟨bx, 1, none⟩ = false) ∧
    (wr.cell? ⟨w.heap.size, 0, none⟩ = some (.slice none 0 0) ∧ wr.cell? ⟨w.heap.size, 1, none⟩ = some (.slice none 0 0) ∧ wr.frozen? ⟨w.heap.size, 0, none⟩ = false ∧ wr.frozen? ⟨w.heap.size, 1, none⟩ = false)) (fun i _ => 12 - (intOf i).toNat)
  case atStart => exact ⟨0, m + 1200, s0, rfl, by omega, by omega, Lib.hid hsm, Lib.hid ⟨rfl, rfl⟩, hO2, hR2, hA2, by omega, ⟨b0, b1, b2, b3⟩, ⟨q0, q1, f0, f1⟩⟩
  case round =>
    obtain ⟨j, p, s, rfl, hj, hp, hst, hln, hOk, hRk, hAk, hsk, ⟨b0, b1, b2, b3⟩, ⟨q0, q1, f0, f1⟩⟩ := hrel
    clear hO2 hR2 hA2
    have h1n : s0.flash.length < 1000000000000 := by have := hst.out.1.1; have := hln.out.1; omega
    by_cases hj12 : j < 12
    · have hj1 : (j : Int) < 12 := by omega
      have e1 : IntKind.i64.wrap ((j : Int) + 1) = (j : Int) + 1 := IntWalk.i64_in _ (by omega)
      go_wp2_with fail
      refine (spec_StoreOk s A D _ _ c d _ hln.out.1.symm hln.out.2.symm (by rw [hln.out.1]; exact h1n) hOk.ofl.fl hOk.disk).mono ?_
      rintro e w2 ⟨rfl, hb⟩
      have hAc := Agr.of_below (S := (· = R)) hb
      obtain ⟨b0, b1, b2, b3⟩ := agr_cells hAc (b := bx) (by omega) (by omega) b0 b1 b2 b3
      obtain ⟨q0, q1, f0, f1⟩ := agr_cells hAc (b := w.heap.size) (by omega) (by omega) q0 q1 f0 f1
      have hsz2 := hAc.size
      replace hOk : OSt w2 (w.heap.size + 1) bx A s.flash D s.disk := hOk.keep fun b h1 h2 hl => hAc.block b hl (by omega)
      replace hAk := hAk.trans hAc (fun _ _ h => h)
      clear hAc
      have hR2 := hRk.below hb (Nat.le_refl _)
      clear hb hRk
      by_cases hok : storeOk s = true
      · have HOK := Lib.hid (storeOk_iff.1 hok)
        rw [hok]
        clear hok
        have HL4 : Hid (s0.flash.length = 4) := by unfold Hid; rw [← hln.out.1]; exact flashOk_len HOK.out.flash
        have HL6 : Hid (s0.disk.length = 6) := by unfold Hid; rw [← hln.out.2]; exact HOK.out.len
        rw [HL4.out, HL6.out] at hln
        rw [HL4.out] at b0
        rw [HL6.out] at b1
        go_wp2_with fail
        refine (spec_pickI 8 8 B R p _ rfl (by omega) (by omega) (by omega) hR2).mono ?_
        rintro e w3 ⟨k, rfl, hk, hR3, hAc⟩
        obtain ⟨b0, b1, b2, b3⟩ := agr_cells hAc (b := bx) (by omega) (by omega) b0 b1 b2 b3
        obtain ⟨q0, q1, f0, f1⟩ := agr_cells hAc (b := w.heap.size) (by omega) (by omega) q0 q1 f0 f1
        have hsz3 := hAc.size
        replace hOk : OSt w3 (w.heap.size + 1) bx A s.flash D s.disk := hOk.keep fun b h1 h2 hl => hAc.block b hl (by omega)
        replace hAk := hAk.trans hAc (fun _ _ h => h)
        clear hAc
        clear hR2
        by_cases hk0 : k = 0
        · subst hk0
          go_wp2
          have hF : Agr (· = w.heap.size) w3 ((w3.setCell ⟨w.heap.size, 0, none⟩ (.slice A 4 c)).setCell ⟨w.heap.size, 1, none⟩ (.slice D 6 d)) := Agr.setCell (S := fun b => b = w.heap.size) (Agr.setCell (S := fun b => b = w.heap.size) (Agr.refl _ _) (p := ⟨w.heap.size, 0, none⟩) (.inr rfl) _) (p := ⟨w.heap.size, 1, none⟩) (.inr rfl) _
          have hsz := hF.size
          refine bodyPost_ret (v := .agg #[.slice A 4 c, .slice D 6 d]) (by simp [results, Try.results57, go_sem, q0, q1]) rfl ⟨A, D, c, d, s, by rw [hln.out.1, hln.out.2], hst.out, ?_, ?_, ?_⟩
          · exact (hOk.keep (w' := (w3.setCell ⟨w.heap.size, 0, none⟩ (.slice A 4 c)).setCell ⟨w.heap.size, 1, none⟩ (.slice D 6 d)) fun b h1 h2 hl => hF.block b hl (by omega)).mono (by omega) (by omega)
          · exact (hR3.agr hF (by omega) (fun b hb e => by have := hR3.le; omega)).mono (by omega)
          · exact hAk.trans hF (fun b hb e => by omega)
        · have hk1 : (0 : Int) < k := by omega
          go_wp2_with fail
          refine (spec_l3Open' 4 s.flash A c _ hln.out.1.symm (by rw [hln.out.1]; omega) (okay_pages' HOK.out) hOk.ofl.fl).mono ?_
          rintro e w4 ⟨rfl, _, _, hb⟩
          have hAc := Agr.of_below (S := (· = R)) hb
          obtain ⟨b0, b1, b2, b3⟩ := agr_cells hAc (b := bx) (by omega) (by omega) b0 b1 b2 b3
          obtain ⟨q0, q1, f0, f1⟩ := agr_cells hAc (b := w.heap.size) (by omega) (by omega) q0 q1 f0 f1
          have hsz4 := hAc.size
          replace hOk : OSt w4 (w.heap.size + 1) bx A s.flash D s.disk := hOk.keep fun b h1 h2 hl => hAc.block b hl (by omega)
          replace hAk := hAk.trans hAc (fun _ _ h => h)
          clear hAc
          have hR4 := hR3.below hb (Nat.le_refl _)
          clear hb hR3
          generalize (openB s.flash).1 = o1 at *
          generalize (openB s.flash).2 = o2 at *
          cases o2 with
          | false =>
            go_wp2
            have hF : Agr (· = w.heap.size) w4 ((w4.setCell ⟨w.heap.size, 0, none⟩ (.slice A 4 c)).setCell ⟨w.heap.size, 1, none⟩ (.slice D 6 d)) := Agr.setCell (S := fun b => b = w.heap.size) (Agr.setCell (S := fun b => b = w.heap.size) (Agr.refl _ _) (p := ⟨w.heap.size, 0, none⟩) (.inr rfl) _) (p := ⟨w.heap.size, 1, none⟩) (.inr rfl) _
            have hsz := hF.size
            refine bodyPost_ret (v := .agg #[.slice A 4 c, .slice D 6 d]) (by simp [results, Try.results57, go_sem, q0, q1]) rfl ⟨A, D, c, d, s, by rw [hln.out.1, hln.out.2], hst.out, ?_, ?_, ?_⟩
            · exact (hOk.keep (w' := (w4.setCell ⟨w.heap.size, 0, none⟩ (.slice A 4 c)).setCell ⟨w.heap.size, 1, none⟩ (.slice D 6 d)) fun b h1 h2 hl => hF.block b hl (by omega)).mono (by omega) (by omega)
            · exact (hR4.agr hF (by omega) (fun b hb e => by have := hR4.le; omega)).mono (by omega)
            · exact hAk.trans hF (fun b hb e => by omega)
          | true =>
            have hq := Lib.hid (fun X (h : Agr (· = R) w4.drew X) => agr_cells h (b := bx) (by show bx < w4.heap.size; omega) (by omega) (w := w4.drew) b0 b1 b2 b3)
            have hr := Lib.hid (fun X (h : Agr (· = R) w4.drew X) => agr_cells h (b := w.heap.size) (by show w.heap.size < w4.heap.size; omega) (by omega) (w := w4.drew) q0 q1 f0 f1)
            have hOx := Lib.hid (fun X (h : Agr (· = R) w4.drew X) => hOk.drew.keep (w' := X) fun b h1 h2 hl => h.block b hl (by omega))
            have hAx := Lib.hid (fun X (h : Agr (· = R) w4.drew X) => hAk.drew.trans h (fun _ _ h => h))
            have hRx := hR4.drew
            have hz4 : bx < w4.drew.heap.size := by show bx < w4.heap.size; omega
            have hg0 : Agr (· = R) w4.drew w4.drew := Agr.refl _ _
            have HZ := Lib.hid hz4
            clear hAk hR4 hOk hz4
            go_wp2
            refine wp_region_held_drew (S := fun X => X.cell? ⟨bx, 0, none⟩ = some (.slice A 4 c) ∧ X.cell? ⟨bx, 1, none⟩ = some (.slice D 6 d)) (by kernel_rfl) ⟨(hq.out _ hg0).1, (hq.out _ hg0).2.1⟩ (fun hHeld0 => ?_)
            refine wpAnyH_take (i := 0) (v := ?vf1) rfl (by kernel_rfl) (by kernel_rfl) (by kernel_rfl) (fun _ _ _ h => h) (Or.inl ⟨by kernel_rfl, ?yf1⟩) hHeld0 ?rf1
            case yf1 => (intro w' hS; (try dsimp only at hS); obtain ⟨s0, s1⟩ := hS; (try go_simp); (try with_reducible rfl))
            try simp only [Act.put, jA, jB, jC, jD, jE, jF]
            refine wpAnyH_take (i := 1) (v := ?vf2) rfl (by kernel_rfl) (by kernel_rfl) (by kernel_rfl) (fun _ _ _ h => h) (Or.inl ⟨by kernel_rfl, ?yf2⟩) hHeld0 ?rf2
            case yf2 => (intro w' hS; (try dsimp only at hS); obtain ⟨s0, s1⟩ := hS; (try go_simp); (try with_reducible rfl))
            try simp only [Act.put, jA, jB, jC, jD, jE, jF]
            refine wpAnyH_take (i := 4) (v := ?vf3) rfl (by kernel_rfl) (by kernel_rfl) (by kernel_rfl) (fun _ _ _ h => h) (Or.inl ⟨by kernel_rfl, ?yf3⟩) hHeld0 ?rf3
            case yf3 => (intro w' hS; (try dsimp only at hS); obtain ⟨s0, s1⟩ := hS; (try go_simp); (try with_reducible rfl))
            try simp only [Act.put, jA, jB, jC, jD, jE, jF]
            refine wpAnyH_ready (rs := [2]) (by kernel_rfl) (by simp) ?_
            refine AllReadyH.cons rfl (fun K hK => ?_) AllReadyH.nil
            go_simp
            refine (spec_pickI 6 6 B R (p + 1) _ rfl (by omega) (by omega) (by omega) hRx).mono ?_
            rintro e w5 ⟨k5, rfl, hk5, hR5, hc⟩
            have hg1 := hg0.trans hc (fun _ _ h => h)
            have e5 : IntKind.i64.wrap (1 + (k5 : Int)) = 1 + (k5 : Int) := IntWalk.i64_in _ (by omega)
            clear hc
            go_wp2_with fail
            refine hK.out _ _ (⟨(hq.out _ hg1).1, (hq.out _ hg1).2.1⟩) (fun hHf1 => ?_)
            clear hK K
            try simp only [Act.put, jA, jB, jC, jD, jE, jF]
            refine wpAnyH_take (i := 3) (v := ?vf4) rfl (by kernel_rfl) (by kernel_rfl) (by kernel_rfl) (fun _ _ _ h => h) (Or.inl ⟨by kernel_rfl, ?yf4⟩) hHf1 ?rf4
            case yf4 => (intro w' hS; (try dsimp only at hS); obtain ⟨s0, s1⟩ := hS; (try go_simp); (try with_reducible rfl))
            try simp only [Act.put, jA, jB, jC, jD, jE, jF]
            refine wpAnyH_ready (rs := [5]) (by kernel_rfl) (by simp) ?_
            refine AllReadyH.cons rfl (fun K hK => ?_) AllReadyH.nil
            go_simp
            refine (spec_pickI 10 10 B R (p + 1 + 1) _ rfl (by omega) (by omega) (by omega) hR5).mono ?_
            rintro e w6 ⟨k6, rfl, hk6, hR6, hc⟩
            have hg2 := hg1.trans hc (fun _ _ h => h)
            clear hc
            go_wp2_with fail
            refine hK.out _ _ (⟨(hq.out _ hg2).1, (hq.out _ hg2).2.1⟩) (fun hHf2 => ?_)
            clear hK K
            try simp only [Act.put, jA, jB, jC, jD, jE, jF]
            refine wpAnyH_take (i := 6) (v := ?vf5) rfl (by kernel_rfl) (by kernel_rfl) (by kernel_rfl) (fun _ _ _ h => h) (Or.inl ⟨by kernel_rfl, ?yf5⟩) hHf2 ?rf5
            case yf5 => (intro w' hS; (try dsimp only at hS); obtain ⟨s0, s1⟩ := hS; (try go_simp); (try with_reducible rfl))
            try simp only [Act.put, jA, jB, jC, jD, jE, jF]
            refine wpAnyH_ready (rs := [7]) (by kernel_rfl) (by simp) ?_
            refine AllReadyH.cons rfl (fun K hK => ?_) AllReadyH.nil
            go_simp
            refine (spec_l21Do s ⟨1, 1 + (k5 : Int), (k6 : Int), 9, false⟩ A D c d (w.heap.size + 1) bx _ HOK.out.fine (by have h := hg2.size; have h2 := HZ.out; omega) (hOx.out _ hg2)).mono ?_
            rintro e w7 ⟨rfl, hO7, hc⟩
            have hz7 : w4.heap.size ≤ w7.heap.size := Nat.le_trans hg2.size hc.size
            have hbl : bx < w6.heap.size := by have h := hg2.size; have h2 := HZ.out; omega
            have y0 := (hc.cell (b := bx) hbl (by omega) 0).trans (hq.out _ hg2).1
            have y1 := (hc.cell (b := bx) hbl (by omega) 1).trans (hq.out _ hg2).2.1
            have y2 := (hc.fz (b := bx) hbl (by omega) 0).trans (hq.out _ hg2).2.2.1
            have y3 := (hc.fz (b := bx) hbl (by omega) 1).trans (hq.out _ hg2).2.2.2
            have u0 := (hc.cell (b := w.heap.size) (by omega) (by omega) 0).trans (hr.out _ hg2).1
            have u1 := (hc.cell (b := w.heap.size) (by omega) (by omega) 1).trans (hr.out _ hg2).2.1
            have u2 := (hc.fz (b := w.heap.size) (by omega) (by omega) 0).trans (hr.out _ hg2).2.2.1
            have u3 := (hc.fz (b := w.heap.size) (by omega) (by omega) 1).trans (hr.out _ hg2).2.2.2
            have hR7 := hR6.agr hc (by omega) (fun b hb e => by have := hR6.le; omega)
            have hA7 := (hAx.out _ hg2).trans hc (fun b hb e => by omega)
            have hevk := doEv_evt HOK.out ⟨1, 1 + (k5 : Int), (k6 : Int), 9, false⟩
            have HEV := Lib.hid hevk.ok
            clear hevk
            generalize doEv s ⟨1, 1 + (k5 : Int), (k6 : Int), 9, false⟩ = s8 at *
            clear hc
            go_wp2_with fail
            refine hK.out _ _ (⟨y0, y1⟩) (fun hHf3 => ?_)
            clear hK K
            try simp only [Act.put, jA, jB, jC, jD, jE, jF]
            refine wpAnyH_ready (rs := [8]) (by kernel_rfl) (by simp) ?_
            refine AllReadyH.cons rfl (fun K hK => ?_) AllReadyH.nil
            go_simp
            have hWr : Wrote w7 ((w7.setCell ⟨bx, 0, none⟩ (.slice A 4 c)).setCell ⟨bx, 1, none⟩ (.slice D 6 d)) bx 0 [.slice A 4 c, .slice D 6 d] := wrote_setRow bx [.slice A 4 c, .slice D 6 d] 0 w7 (fun j hj => by
              match j, hj with
              | 0, _ => exact ⟨_, y0⟩
              | 1, _ => exact ⟨_, y1⟩)
            have t0 := hWr.new_ 0 _ rfl
            have t1 := hWr.new_ 1 _ rfl
            refine hK.out _ _ (⟨t0, t1⟩) (fun hHf4 => ?_)
            clear hK K
            try simp only [Act.put, jA, jB, jC, jD, jE, jF]
            refine wpAnyH_done (by kernel_rfl) ?_ _
            have hO9 : OSt _ (w.heap.size + 1) bx A s8.flash D s8.disk := hO7.keep fun b h1 h2 _ => hWr.block b (by omega)
            have hR9 := hR7.agr hWr.agr (by omega) (fun b hb e => by have := hR7.le; omega)
            have hA9 := hA7.trans (S' := (· = bx)) hWr.agr (fun b hb e => by omega)
            have t2 := (hWr.frozen ⟨bx, 0, none⟩).trans y2
            have t3 := (hWr.frozen ⟨bx, 1, none⟩).trans y3
            have v0 := (hWr.agr.cell (b := w.heap.size) (by omega) (by omega) 0).trans u0
            have v1 := (hWr.agr.cell (b := w.heap.size) (by omega) (by omega) 1).trans u1
            have v2 := (hWr.frozen ⟨w.heap.size, 0, none⟩).trans u2
            have v3 := (hWr.frozen ⟨w.heap.size, 1, none⟩).trans u3
            have hss := hWr.size
            have hzz := HZ.out
            have hz9 : w4.drew.heap.size = w4.heap.size := rfl
            clear hWr hO7 hR7 hA7 hq hr hOx hAx
            go_wp2
            go_roundw
            (case rel => exact ⟨j + 1, _, s8, by go_num, by omega, by omega, Lib.hid (stSmall_of HEV.out.fine), Lib.hid ⟨by rw [HL4.out]; exact flashOk_len HEV.out.flash, by rw [HL6.out]; exact HEV.out.len⟩, hO9, hR9, hA9, by omega, ⟨by rw [HL4.out]; exact t0, by rw [HL6.out]; exact t1, t2, t3⟩, ⟨v0, v1, v2, v3⟩⟩)
            (case measure => simp [intOf]; omega)
      · have hokf : storeOk s = false := by simpa using hok
        rw [hokf]
        go_wp2
        have hF : Agr (· = w.heap.size) w2 ((w2.setCell ⟨w.heap.size, 0, none⟩ (.slice A s0.flash.length c)).setCell ⟨w.heap.size, 1, none⟩ (.slice D s0.disk.length d)) := Agr.setCell (S := fun b => b = w.heap.size) (Agr.setCell (S := fun b => b = w.heap.size) (Agr.refl _ _) (p := ⟨w.heap.size, 0, none⟩) (.inr rfl) _) (p := ⟨w.heap.size, 1, none⟩) (.inr rfl) _
        have hsz := hF.size
        refine bodyPost_ret (v := .agg #[.slice A s0.flash.length c, .slice D s0.disk.length d]) (by simp [results, Try.results57, go_sem, q0, q1]) rfl ⟨A, D, c, d, s, by rw [hln.out.1, hln.out.2], hst.out, ?_, ?_, ?_⟩
        · exact (hOk.keep (w' := (w2.setCell ⟨w.heap.size, 0, none⟩ (.slice A s0.flash.length c)).setCell ⟨w.heap.size, 1, none⟩ (.slice D s0.disk.length d)) fun b h1 h2 hl => hF.block b hl (by omega)).mono (by omega) (by omega)
        · exact (hR2.agr hF (by omega) (fun b hb e => by have := hR2.le; omega)).mono (by omega)
        · exact hAk.trans hF (fun b hb e => by omega)
    · have hj1 : ¬ (j : Int) < 12 := by omega
      go_wp2
      have hF : Agr (· = w.heap.size) wr ((wr.setCell ⟨w.heap.size, 0, none⟩ (.slice A s0.flash.length c)).setCell ⟨w.heap.size, 1, none⟩ (.slice D s0.disk.length d)) := Agr.setCell (S := fun b => b = w.heap.size) (Agr.setCell (S := fun b => b = w.heap.size) (Agr.refl _ _) (p := ⟨w.heap.size, 0, none⟩) (.inr rfl) _) (p := ⟨w.heap.size, 1, none⟩) (.inr rfl) _
      have hsz := hF.size
      refine bodyPost_ret (v := .agg #[.slice A s0.flash.length c, .slice D s0.disk.length d]) (by simp [results, Try.results57, go_sem, q0, q1]) rfl ⟨A, D, c, d, s, by rw [hln.out.1, hln.out.2], hst.out, ?_, ?_, ?_⟩
      · exact (hOk.keep (w' := (wr.setCell ⟨w.heap.size, 0, none⟩ (.slice A s0.flash.length c)).setCell ⟨w.heap.size, 1, none⟩ (.slice D s0.disk.length d)) fun b h1 h2 hl => hF.block b hl (by omega)).mono (by omega) (by omega)
      · exact (hRk.agr hF (by omega) (fun b hb e => by have := hRk.le; omega)).mono (by omega)
      · exact hAk.trans hF (fun b hb e => by omega)
end Go.Proofs.Ytbekihiiildgmaa
namespace Go.Proofs.Ytbekihiiildgmaa
set_option linter.unusedVariables false
set_option linter.unusedSimpArgs false
open Go.RowKit Go.Maps
set_option maxHeartbeats 4000000
set_option maxRecDepth 100000
/-- a store drawn, in blocks of the draw's own -/
def StoreD (w w' : World) (A D : Option Addr) (s : St) : Prop := stSmall s ∧ OSt w' w.heap.size w'.heap.size A s.flash D s.disk ∧ Below w.heap.size w w'
set_option maxHeartbeats 4000000 in
theorem spec_DrawStepsPut (A : Option Addr) (bs : List Nat) (c : Nat) (w : World) (hc : Code w A bs c) :
    Calls Try.prog 27 #[.slice A bs.length c] w fun e w' => ∃ A2 D2 c2 d2 s a v, e = .returned (.tuple #[.agg #[.slice A2 s.flash.length c2, .slice D2 s.disk.length d2], .int .i64 a, .int .i64 v]) ∧ (1 ≤ a ∧ a ≤ 12) ∧ (-10 ≤ v ∧ v ≤ 9) ∧ StoreD w w' A2 D2 s := by
  have hq := Row.new w #[.slice none 0 0, .slice none 0 0] 26
  obtain ⟨q0, f0⟩ := hq.at0 (j := 0) rfl
  obtain ⟨q1, f1⟩ := hq.at0 (j := 1) rfl
  obtain ⟨W0, hW0⟩ : ∃ W, w.alloc (.cells #[.slice none 0 0, .slice none 0 0] 26) = W := ⟨_, rfl⟩
  have hs0 : W0.heap.size = w.heap.size + 1 := by rw [← hW0]; simp
  have hB0 : Below w.heap.size w W0 := by rw [← hW0]; (repeat (first | (with_reducible exact Below.refl _ _) | (with_reducible assumption) | (refine Below.setCell ?_ (by first | omega | exact hB.size | exact hb.size | (have h := hB.size; simp; omega) | (have h := hb.size; simp; omega) | (simp; omega) | simp) _) | (refine Below.alloc ?_ (by first | omega | exact hB.size | exact hb.size | (have h := hB.size; simp; omega) | (have h := hb.size; simp; omega) | (simp; omega) | simp) _) | (refine Below.drew ?_)))
  have hrow := hc.row.alloc (.cells #[.slice none 0 0, .slice none 0 0] 26)
  rw [hW0] at q0 q1 f0 f1 hrow
  clear hq
  go_enter Try.func27, Try.ntmps27
  go_wp2_with fail
  (try rw [hW0])
  refine (spec_l6Open A bs c _ hc.len hc.cap hc.byte hrow).mono ?_
  rintro e w1 ⟨rfl, hR1, hb1⟩
  rw [hs0] at hb1 hR1
  have hs1 := hb1.size
  rw [hs0] at hs1
  replace q0 := (hb1.cell (p := ⟨w.heap.size, 0, none⟩) (by show w.heap.size < _; omega)).trans q0
  replace q1 := (hb1.cell (p := ⟨w.heap.size, 1, none⟩) (by show w.heap.size < _; omega)).trans q1
  replace f0 := (hb1.frozen (p := ⟨w.heap.size, 0, none⟩) (by show w.heap.size < _; omega)).trans f0
  replace f1 := (hb1.frozen (p := ⟨w.heap.size, 1, none⟩) (by show w.heap.size < _; omega)).trans f1
  have hB1 := hB0.trans (hb1.mono (by omega))
  have hRl := hR1.lt
  clear hb1 hB0 hrow
  (try simp only [hs0])
  clear hs0
  go_wp2_with fail
  refine (spec_l71Full _ _ 0 _ (by omega) hR1).mono ?_
  rintro e w2 ⟨A2, D2, c2, d2, s, rfl, hsm, hO, hR, hA⟩
  have hs2 := hA.size
  have HS := Lib.hid hsm
  clear hsm hR1
  obtain ⟨q0, q1, f0, f1⟩ := agr_cells hA (b := w.heap.size) (by omega) (by omega) q0 q1 f0 f1
  have hB2 := hB1.trans (hA.below (B := w.heap.size) (by omega) (fun i hi => by omega))
  clear hA hB1
  replace hO : OSt w2 (w.heap.size + 1 + 1) w2.heap.size A2 s.flash D2 s.disk := hO.mono (by omega) (Nat.le_refl _)
  go_wp2_with fail
  refine (spec_pickI 6 6 _ _ (0 + 1250) _ rfl (by omega) (by omega) (by omega) hR).mono ?_
  rintro e w3 ⟨k3, rfl, hk3, hR, hA⟩
  have hs3 := hA.size
  obtain ⟨q0, q1, f0, f1⟩ := agr_cells hA (b := w.heap.size) (by omega) (by omega) q0 q1 f0 f1
  have hB3 := hB2.trans (hA.below (B := w.heap.size) (by omega) (fun i hi => by omega))
  replace hO := hO.agr hA (fun b h1 h2 h3 => by omega)
  clear hA hB2
  have e1 : IntKind.i64.wrap (1 + (k3 : Int)) = 1 + (k3 : Int) := IntWalk.i64_in _ (by omega)
  go_wp2_with fail
  refine (spec_pickI 24 24 _ _ (0 + 1250 + 1) _ rfl (by omega) (by omega) (by omega) hR).mono ?_
  rintro e w4 ⟨k4, rfl, hk4, hR, hA⟩
  have hs4 := hA.size
  obtain ⟨q0, q1, f0, f1⟩ := agr_cells hA (b := w.heap.size) (by omega) (by omega) q0 q1 f0 f1
  have hB4 := hB3.trans (hA.below (B := w.heap.size) (by omega) (fun i hi => by omega))
  replace hO := hO.agr hA (fun b h1 h2 h3 => by omega)
  clear hA hB3
  have e2 : IntKind.i64.wrap ((k4 : Int) / 23) = (k4 : Int) / 23 := IntWalk.i64_in _ (by omega)
  have e3 : IntKind.i64.wrap ((k4 : Int) / 23 * 6) = (k4 : Int) / 23 * 6 := IntWalk.i64_in _ (by omega)
  have e4 : IntKind.i64.wrap (1 + (k3 : Int) + (k4 : Int) / 23 * 6) = 1 + (k3 : Int) + (k4 : Int) / 23 * 6 := IntWalk.i64_in _ (by omega)
  go_wp2_with fail
  refine (spec_pickI 10 10 _ _ (0 + 1250 + 1 + 1) _ rfl (by omega) (by omega) (by omega) hR).mono ?_
  rintro e w5 ⟨k5, rfl, hk5, hR, hA⟩
  have hs5 := hA.size
  obtain ⟨q0, q1, f0, f1⟩ := agr_cells hA (b := w.heap.size) (by omega) (by omega) q0 q1 f0 f1
  have hB5 := hB4.trans (hA.below (B := w.heap.size) (by omega) (fun i hi => by omega))
  replace hO := hO.agr hA (fun b h1 h2 h3 => by omega)
  clear hA hB4
  go_wp2_with fail
  refine (spec_pickI 24 24 _ _ (0 + 1250 + 1 + 1 + 1) _ rfl (by omega) (by omega) (by omega) hR).mono ?_
  rintro e w6 ⟨k6, rfl, hk6, hR, hA⟩
  have hs6 := hA.size
  obtain ⟨q0, q1, f0, f1⟩ := agr_cells hA (b := w.heap.size) (by omega) (by omega) q0 q1 f0 f1
  have hB6 := hB5.trans (hA.below (B := w.heap.size) (by omega) (fun i hi => by omega))
  replace hO := hO.agr hA (fun b h1 h2 h3 => by omega)
  clear hA hB5
  have e5 : IntKind.i64.wrap ((k6 : Int) / 23) = (k6 : Int) / 23 := IntWalk.i64_in _ (by omega)
  have e6 : IntKind.i64.wrap ((k6 : Int) / 23 * 10) = (k6 : Int) / 23 * 10 := IntWalk.i64_in _ (by omega)
  have e7 : IntKind.i64.wrap ((k5 : Int) - (k6 : Int) / 23 * 10) = (k5 : Int) - (k6 : Int) / 23 * 10 := IntWalk.i64_in _ (by omega)
  have hL := laid_cells q0 q1 (.slice A2 s.flash.length c2) (.slice D2 s.disk.length d2)
  have hOf := hO.agr hL.agr (fun b h1 h2 h3 => by omega)
  have hBf := hB6.trans (hL.agr.below (B := w.heap.size) (by omega) (fun i hi => by omega))
  have hsz := hL.size
  have r0 := hL.new_ 0 _ rfl
  have r1 := hL.new_ 1 _ rfl
  clear hL
  go_wp2
  exact bodyPost_ret (v := .tuple #[.agg #[.slice A2 s.flash.length c2, .slice D2 s.disk.length d2], .int .i64 (1 + (k3 : Int) + (k4 : Int) / 23 * 6), .int .i64 ((k5 : Int) - (k6 : Int) / 23 * 10)]) (by simp [results, Try.results27, go_sem, r0, r1, q0, q1]) rfl ⟨A2, D2, c2, d2, s, _, _, rfl, by omega, by omega, HS.out, hOf.mono (by omega) (by omega), hBf⟩
end Go.Proofs.Ytbekihiiildgmaa
namespace Go.Proofs.Ytbekihiiildgmaa
set_option linter.unusedVariables false
set_option linter.unusedSimpArgs false
open Go.RowKit Go.Maps
set_option maxHeartbeats 4000000
set_option maxRecDepth 100000
theorem StoreD.two {w W Y : World} {lo hi : Nat} {A D : Option Addr} {s : St} (hs : stSmall s) (hO : OSt W lo hi A s.flash D s.disk) (hB : Below w.heap.size w W) (hlo : w.heap.size + 2 ≤ lo) (hhi : hi ≤ W.heap.size) (hG : Agr (fun b => b = w.heap.size ∨ b = w.heap.size + 1) W Y) : StoreD w Y A D s :=
  ⟨hs, (hO.agr hG (fun b h1 h2 h3 => by omega)).mono (by omega) (by have := hG.size; omega), hB.trans (hG.below (B := w.heap.size) hB.size (fun i hi => by omega))⟩
def evSmall (e : Ev) : Prop := (-1 ≤ e.kind ∧ e.kind ≤ 5) ∧ (0 ≤ e.a ∧ e.a ≤ 7) ∧ (0 ≤ e.b ∧ e.b ≤ 9) ∧ (-1 ≤ e.c ∧ e.c ≤ 9)
theorem Row.ev5 {w : World} {b : Nat} {k a v c : Int} {t : Bool} (h : Row w (some ⟨b, 0, none⟩) [.int .i64 k, .int .i64 a, .int .i64 v, .int .i64 c, .bool t]) :
    (w.cell? ⟨b, 0, none⟩ = some (.int .i64 k) ∧ w.cell? ⟨b, 1, none⟩ = some (.int .i64 a) ∧ w.cell? ⟨b, 2, none⟩ = some (.int .i64 v) ∧ w.cell? ⟨b, 3, none⟩ = some (.int .i64 c) ∧ w.cell? ⟨b, 4, none⟩ = some (.bool t)) ∧ (w.frozen? ⟨b, 0, none⟩ = false ∧ w.frozen? ⟨b, 1, none⟩ = false ∧ w.frozen? ⟨b, 2, none⟩ = false ∧ w.frozen? ⟨b, 3, none⟩ = false ∧ w.frozen? ⟨b, 4, none⟩ = false) :=
  ⟨⟨(h.at0 (j := 0) rfl).1, (h.at0 (j := 1) rfl).1, (h.at0 (j := 2) rfl).1, (h.at0 (j := 3) rfl).1, (h.at0 (j := 4) rfl).1⟩, (h.at0 (j := 0) rfl).2, (h.at0 (j := 1) rfl).2, (h.at0 (j := 2) rfl).2, (h.at0 (j := 3) rfl).2, (h.at0 (j := 4) rfl).2⟩
theorem spec_DrawPlayDo (A : Option Addr) (bs : List Nat) (c : Nat) (w : World) (hc : Code w A bs c) :
    Calls Try.prog 15 #[.slice A bs.length c] w (fun e w' => ∃ A2 D2 c2 d2 s x, e = .returned (.tuple #[.agg #[.slice A2 s.flash.length c2, .slice D2 s.disk.length d2], .agg #[.int .i64 x.kind, .int .i64 x.a, .int .i64 x.b, .int .i64 x.c, .bool x.torn]]) ∧ evSmall x ∧ StoreD w w' A2 D2 s) := by
  obtain ⟨W0, hW0⟩ : ∃ W, (w.alloc (.cells #[.slice none 0 0, .slice none 0 0] 26)).alloc (.cells #[.int .i64 0, .int .i64 0, .int .i64 0, .int .i64 0, .bool false] 28) = W := ⟨_, rfl⟩
  have hs0 : W0.heap.size = w.heap.size + 2 := by rw [← hW0]; simp
  have hB0 : Below w.heap.size w W0 := by rw [← hW0]; (repeat (first | (with_reducible exact Below.refl _ _) | (with_reducible assumption) | (refine Below.setCell ?_ (by first | omega | exact hB.size | exact hb.size | (have h := hB.size; simp; omega) | (have h := hb.size; simp; omega) | (simp; omega) | simp) _) | (refine Below.alloc ?_ (by first | omega | exact hB.size | exact hb.size | (have h := hB.size; simp; omega) | (have h := hb.size; simp; omega) | (simp; omega) | simp) _) | (refine Below.drew ?_)))
  have hrow := (hc.row.alloc (.cells #[.slice none 0 0, .slice none 0 0] 26)).alloc (.cells #[.int .i64 0, .int .i64 0, .int .i64 0, .int .i64 0, .bool false] 28)
  have hq := (Row.new w #[.slice none 0 0, .slice none 0 0] 26).alloc (.cells #[.int .i64 0, .int .i64 0, .int .i64 0, .int .i64 0, .bool false] 28)
  obtain ⟨q0, f0⟩ := hq.at0 (j := 0) rfl
  obtain ⟨q1, f1⟩ := hq.at0 (j := 1) rfl
  have hv := Row.new (w.alloc (.cells #[.slice none 0 0, .slice none 0 0] 26)) #[.int .i64 0, .int .i64 0, .int .i64 0, .int .i64 0, .bool false] 28
  simp only [World.size_alloc] at hv
  rw [hW0] at q0 q1 f0 f1 hrow hv
  clear hq
  go_enter Try.func15, Try.ntmps15
  go_wp2_with fail
  (try rw [hW0])
  refine (spec_l6Open A bs c _ hc.len hc.cap hc.byte hrow).mono ?_
  rintro e w1 ⟨rfl, hR1, hb1⟩
  rw [hs0] at hb1 hR1
  have hs1 := hb1.size
  rw [hs0] at hs1
  replace q0 := (hb1.cell (p := ⟨w.heap.size, 0, none⟩) (by show w.heap.size < _; omega)).trans q0
  replace q1 := (hb1.cell (p := ⟨w.heap.size, 1, none⟩) (by show w.heap.size < _; omega)).trans q1
  replace f0 := (hb1.frozen (p := ⟨w.heap.size, 0, none⟩) (by show w.heap.size < _; omega)).trans f0
  replace f1 := (hb1.frozen (p := ⟨w.heap.size, 1, none⟩) (by show w.heap.size < _; omega)).trans f1
  replace hv := hv.below hb1 (by rw [hs0]; exact Nat.le_refl _)
  have hB1 := hB0.trans (hb1.mono (by omega))
  have hRl := hR1.lt
  clear hb1 hB0 hrow
  (try simp only [hs0])
  clear hs0
  go_wp2_with fail
  refine (spec_l71Full _ _ 0 _ (by omega) hR1).mono ?_
  rintro e w2 ⟨A2, D2, c2, d2, s, rfl, hsm, hO, hR, hA⟩
  have hs2 := hA.size
  have HS := Lib.hid hsm
  clear hsm hR1
  obtain ⟨q0, q1, f0, f1⟩ := agr_cells hA (b := w.heap.size) (by omega) (by omega) q0 q1 f0 f1
  have hB2 := hB1.trans (hA.below (B := w.heap.size) (by omega) (fun i hi => by omega))
  replace hv := hv.agr hA (fun b hb => by rw [blk_some] at hb; omega)
  clear hA hB1
  replace hO : OSt w2 (w.heap.size + 2 + 1) w2.heap.size A2 s.flash D2 s.disk := hO.mono (by omega) (Nat.le_refl _)
  have hx := Row.new w2 #[.slice A2 s.flash.length c2, .slice D2 s.disk.length d2] 26
  obtain ⟨W, hW⟩ : ∃ W, w2.alloc (.cells #[.slice A2 s.flash.length c2, .slice D2 s.disk.length d2] 26) = W := ⟨_, rfl⟩
  obtain ⟨bx, hbx⟩ : ∃ b, w2.heap.size = b := ⟨_, rfl⟩
  rw [hW] at hx
  obtain ⟨x0, y0⟩ := hx.at0 (j := 0) rfl
  obtain ⟨x1, y1⟩ := hx.at0 (j := 1) rfl
  have hb : Below w2.heap.size w2 W := by rw [← hW]; (repeat (first | (with_reducible exact Below.refl _ _) | (with_reducible assumption) | (refine Below.setCell ?_ (by first | omega | exact hB.size | exact hb.size | (have h := hB.size; simp; omega) | (have h := hb.size; simp; omega) | (simp; omega) | simp) _) | (refine Below.alloc ?_ (by first | omega | exact hB.size | exact hb.size | (have h := hB.size; simp; omega) | (have h := hb.size; simp; omega) | (simp; omega) | simp) _) | (refine Below.drew ?_)))
  have hsW : W.heap.size = w2.heap.size + 1 := by rw [← hW]; simp
  obtain ⟨q0, q1, f0, f1⟩ := four_cells hb (b := w.heap.size) (by omega) q0 q1 f0 f1
  have hBW := hB2.trans (hb.mono (by omega))
  replace hO := hO.below hb (Nat.le_refl _)
  replace hR := hR.below hb (Nat.le_refl _)
  replace hv := hv.below hb (Nat.le_refl _)
  rw [hbx] at x0 x1 y0 y1 hO hsW hs2
  clear hx hb hB2
  go_wp2_with fail
  (try rw [hW])
  (try simp only [hbx])
  refine (spec_l71Event _ _ (0 + 1250) _ (by omega) hR).mono ?_
  rintro e w3 ⟨x, rfl, hxf, hR, hA⟩
  have hs3 := hA.size
  have HXF := Lib.hid hxf
  clear hxf
  obtain ⟨q0, q1, f0, f1⟩ := agr_cells hA (b := w.heap.size) (by omega) (by omega) q0 q1 f0 f1
  have hB3 := hBW.trans (hA.below (B := w.heap.size) (by omega) (fun i hi => by omega))
  replace hv := hv.agr hA (fun b hb => by rw [blk_some] at hb; omega)
  replace hO := hO.agr hA (fun b h1 h2 h3 => by omega)
  obtain ⟨x0, x1, y0, y1⟩ := agr_cells hA (b := bx) (by omega) (by omega) x0 x1 y0 y1
  clear hA hBW
  clear hW
  have hex := Row.new w3 #[.int .i64 x.kind, .int .i64 x.a, .int .i64 x.b, .int .i64 x.c, .bool x.torn] 28
  obtain ⟨V, hV⟩ : ∃ W, w3.alloc (.cells #[.int .i64 x.kind, .int .i64 x.a, .int .i64 x.b, .int .i64 x.c, .bool x.torn] 28) = W := ⟨_, rfl⟩
  obtain ⟨be, hbe⟩ : ∃ b, w3.heap.size = b := ⟨_, rfl⟩
  rw [hV] at hex
  have hb : Below w3.heap.size w3 V := by rw [← hV]; (repeat (first | (with_reducible exact Below.refl _ _) | (with_reducible assumption) | (refine Below.setCell ?_ (by first | omega | exact hB.size | exact hb.size | (have h := hB.size; simp; omega) | (have h := hb.size; simp; omega) | (simp; omega) | simp) _) | (refine Below.alloc ?_ (by first | omega | exact hB.size | exact hb.size | (have h := hB.size; simp; omega) | (have h := hb.size; simp; omega) | (simp; omega) | simp) _) | (refine Below.drew ?_)))
  have hsV : V.heap.size = w3.heap.size + 1 := by rw [← hV]; simp
  obtain ⟨q0, q1, f0, f1⟩ := four_cells hb (b := w.heap.size) (by omega) q0 q1 f0 f1
  obtain ⟨x0, x1, y0, y1⟩ := four_cells hb (b := bx) (by omega) x0 x1 y0 y1
  have hBV := hB3.trans (hb.mono (by omega))
  replace hO := hO.below hb (Nat.le_refl _)
  replace hR := hR.below hb (Nat.le_refl _)
  replace hv := hv.below hb (Nat.le_refl _)
  rw [hbe] at hex hsV hs3
  clear hb hB3
  go_wp2_with fail
  (try rw [hV])
  (try simp only [hbe])
  refine (spec_pickI 20 20 _ _ (0 + 1250 + 7) _ rfl (by omega) (by omega) (by omega) hR).mono ?_
  rintro e w4 ⟨k4, rfl, hk4, hR, hA⟩
  have hs4 := hA.size
  obtain ⟨q0, q1, f0, f1⟩ := agr_cells hA (b := w.heap.size) (by omega) (by omega) q0 q1 f0 f1
  have hB4 := hBV.trans (hA.below (B := w.heap.size) (by omega) (fun i hi => by omega))
  replace hv := hv.agr hA (fun b hb => by rw [blk_some] at hb; omega)
  replace hO := hO.agr hA (fun b h1 h2 h3 => by omega)
  obtain ⟨x0, x1, y0, y1⟩ := agr_cells hA (b := bx) (by omega) (by omega) x0 x1 y0 y1
  replace hex := hex.agr hA (fun b hb => by rw [blk_some] at hb; omega)
  clear hA hBV
  clear hV
  by_cases h0 : k4 = 0
  · subst h0
    have hb : Below w4.heap.size w4 (w4.alloc (.cells #[.int .i64 0, .int .i64 5, .int .i64 (-1)] 3)) := by (repeat (first | (with_reducible exact Below.refl _ _) | (with_reducible assumption) | (refine Below.setCell ?_ (by first | omega | exact hB.size | exact hb.size | (have h := hB.size; simp; omega) | (have h := hb.size; simp; omega) | (simp; omega) | simp) _) | (refine Below.alloc ?_ (by first | omega | exact hB.size | exact hb.size | (have h := hB.size; simp; omega) | (have h := hb.size; simp; omega) | (simp; omega) | simp) _) | (refine Below.drew ?_)))
    have hlit := Row.new w4 #[.int .i64 0, .int .i64 5, .int .i64 (-1)] 3
    obtain ⟨U, hU⟩ : ∃ W, w4.alloc (.cells #[.int .i64 0, .int .i64 5, .int .i64 (-1)] 3) = W := ⟨_, rfl⟩
    have hsU : U.heap.size = w4.heap.size + 1 := by rw [← hU]; simp
    rw [hU] at hb hlit
    obtain ⟨bl, hbl⟩ : ∃ b, w4.heap.size = b := ⟨_, rfl⟩
    obtain ⟨q0, q1, f0, f1⟩ := four_cells hb (b := w.heap.size) (by omega) q0 q1 f0 f1
    obtain ⟨x0, x1, y0, y1⟩ := four_cells hb (b := bx) (by omega) x0 x1 y0 y1
    have hBU := hB4.trans (hb.mono (by omega))
    replace hO := hO.below hb (Nat.le_refl _)
    replace hR := hR.below hb (Nat.le_refl _)
    replace hv := hv.below hb (Nat.le_refl _)
    replace hex := hex.below hb (Nat.le_refl _)
    rw [hbl] at hlit hsU hs4
    clear hb hB4
    go_wp2_with fail
    (try rw [hU])
    (try simp only [hbl])
    refine (spec_pickI 3 3 _ _ (0 + 1250 + 7 + 1) _ rfl (by omega) (by omega) (by omega) hR).mono ?_
    rintro e w5 ⟨k5, rfl, hk5, hR, hA⟩
    have hs5 := hA.size
    obtain ⟨q0, q1, f0, f1⟩ := agr_cells hA (b := w.heap.size) (by omega) (by omega) q0 q1 f0 f1
    have hB5 := hBU.trans (hA.below (B := w.heap.size) (by omega) (fun i hi => by omega))
    replace hv := hv.agr hA (fun b hb => by rw [blk_some] at hb; omega)
    replace hO := hO.agr hA (fun b h1 h2 h3 => by omega)
    obtain ⟨x0, x1, y0, y1⟩ := agr_cells hA (b := bx) (by omega) (by omega) x0 x1 y0 y1
    replace hex := hex.agr hA (fun b hb => by rw [blk_some] at hb; omega)
    replace hlit := hlit.agr hA (fun b hb => by rw [blk_some] at hb; omega)
    clear hA hBU
    clear hU hR
    obtain ⟨kv, hkv, hkb⟩ : ∃ kv : Int, w5.cell? ⟨bl, k5, none⟩ = some (.int .i64 kv) ∧ -1 ≤ kv ∧ kv ≤ 5 := by
      match k5, hk5 with
      | 0, _ => exact ⟨_, (hlit.at0 (j := 0) rfl).1, by decide⟩
      | 1, _ => exact ⟨_, (hlit.at0 (j := 1) rfl).1, by decide⟩
      | 2, _ => exact ⟨_, (hlit.at0 (j := 2) rfl).1, by decide⟩
    have HKB := Lib.hid hkb
    have hk5i : (k5 : Int) < 3 := by omega
    clear hkb hlit
    obtain ⟨⟨g0, g1, g2, g3, g4⟩, j0, j1, j2, j3, j4⟩ := hex.ev5
    have hWr : Wrote w5 (w5.setCell ⟨be, 0, none⟩ (.int .i64 kv)) be (0 + 0) [.int .i64 kv] := by rw [Nat.zero_add]; exact wrote_one g0 _
    have hAg := hWr.agr
    have hex2 : Row (w5.setCell ⟨be, 0, none⟩ (.int .i64 kv)) (some ⟨be, 0, none⟩) [.int .i64 kv, .int .i64 x.a, .int .i64 x.b, .int .i64 x.c, .bool x.torn] := hWr.row hex (by simp)
    replace hv := hv.agr hAg (fun b hb => by rw [blk_some] at hb; omega)
    replace hO := hO.agr hAg (fun b h1 h2 h3 => by omega)
    have hB6 : Below w.heap.size w (w5.setCell ⟨be, 0, none⟩ (.int .i64 kv)) := hB5.trans (hAg.below (B := w.heap.size) (by omega) (fun i hi => by omega))
    have hzx := lt_of_cell x0
    have hzq := lt_of_cell q0
    have n0 := (hAg.cell (b := bx) hzx (by omega) 0).trans x0
    have n1 := (hAg.cell (b := bx) hzx (by omega) 1).trans x1
    have p0 := (hAg.cell (b := w.heap.size) hzq (by omega) 0).trans q0
    have p1 := (hAg.cell (b := w.heap.size) hzq (by omega) 1).trans q1
    have p2 := (hAg.fz (b := w.heap.size) hzq (by omega) 0).trans f0
    have p3 := (hAg.fz (b := w.heap.size) hzq (by omega) 1).trans f1
    have hsX := hWr.size
    clear hWr hAg hex
    obtain ⟨⟨g0, g1, g2, g3, g4⟩, _⟩ := hex2.ev5
    obtain ⟨⟨v0, v1, v2, v3, v4⟩, u0, u1, u2, u3, u4⟩ := hv.ev5
    have hzb := lt_of_cell n0
    have hzw := lt_of_cell p0
    have hze := lt_of_cell g0
    go_wp2
    have hd0 : (w5.setCell ⟨be, 0, none⟩ (.int .i64 kv)).drew.cell? ⟨bx, 0, none⟩ = some (.slice A2 s.flash.length c2) := n0
    have hd1 : (w5.setCell ⟨be, 0, none⟩ (.int .i64 kv)).drew.cell? ⟨bx, 1, none⟩ = some (.slice D2 s.disk.length d2) := n1
    go_region
    all_goals
      go_wp2
      refine bodyPost_ret (v := .tuple #[.agg #[.slice A2 s.flash.length c2, .slice D2 s.disk.length d2], .agg #[.int .i64 kv, .int .i64 x.a, .int .i64 x.b, .int .i64 x.c, .bool x.torn]]) (by simp [results, Try.results15, go_sem, p0, p1, v0, v1, v2, v3, v4]) rfl ⟨A2, D2, c2, d2, s, ⟨kv, x.a, x.b, x.c, x.torn⟩, rfl, (by have h := HXF.out; unfold evFine at h; have h2 := HKB.out; unfold evSmall; dsimp only; omega), StoreD.two HS.out hO hB6 (by omega) (by omega) ?_⟩
      repeat (first | (with_reducible exact Agr.refl _ _) | (with_reducible refine Agr.drew ?_) | (with_reducible refine Agr.setCell ?_ (.inr (by first | exact .inl rfl | exact .inr rfl)) _))
  · by_cases h1 : k4 = 1
    · subst h1
      have hb : Below w4.heap.size w4 (w4.alloc (.cells #[.int .i64 0, .int .i64 7] 3)) := by (repeat (first | (with_reducible exact Below.refl _ _) | (with_reducible assumption) | (refine Below.setCell ?_ (by first | omega | exact hB.size | exact hb.size | (have h := hB.size; simp; omega) | (have h := hb.size; simp; omega) | (simp; omega) | simp) _) | (refine Below.alloc ?_ (by first | omega | exact hB.size | exact hb.size | (have h := hB.size; simp; omega) | (have h := hb.size; simp; omega) | (simp; omega) | simp) _) | (refine Below.drew ?_)))
      have hlit := Row.new w4 #[.int .i64 0, .int .i64 7] 3
      obtain ⟨U, hU⟩ : ∃ W, w4.alloc (.cells #[.int .i64 0, .int .i64 7] 3) = W := ⟨_, rfl⟩
      have hsU : U.heap.size = w4.heap.size + 1 := by rw [← hU]; simp
      rw [hU] at hb hlit
      obtain ⟨bl, hbl⟩ : ∃ b, w4.heap.size = b := ⟨_, rfl⟩
      obtain ⟨q0, q1, f0, f1⟩ := four_cells hb (b := w.heap.size) (by omega) q0 q1 f0 f1
      obtain ⟨x0, x1, y0, y1⟩ := four_cells hb (b := bx) (by omega) x0 x1 y0 y1
      have hBU := hB4.trans (hb.mono (by omega))
      replace hO := hO.below hb (Nat.le_refl _)
      replace hR := hR.below hb (Nat.le_refl _)
      replace hv := hv.below hb (Nat.le_refl _)
      replace hex := hex.below hb (Nat.le_refl _)
      rw [hbl] at hlit hsU hs4
      clear hb hB4
      go_wp2_with fail
      (try rw [hU])
      (try simp only [hbl])
      refine (spec_pickI 2 2 _ _ (0 + 1250 + 7 + 1) _ rfl (by omega) (by omega) (by omega) hR).mono ?_
      rintro e w5 ⟨k5, rfl, hk5, hR, hA⟩
      have hs5 := hA.size
      obtain ⟨q0, q1, f0, f1⟩ := agr_cells hA (b := w.heap.size) (by omega) (by omega) q0 q1 f0 f1
      have hB5 := hBU.trans (hA.below (B := w.heap.size) (by omega) (fun i hi => by omega))
      replace hv := hv.agr hA (fun b hb => by rw [blk_some] at hb; omega)
      replace hO := hO.agr hA (fun b h1 h2 h3 => by omega)
      obtain ⟨x0, x1, y0, y1⟩ := agr_cells hA (b := bx) (by omega) (by omega) x0 x1 y0 y1
      replace hex := hex.agr hA (fun b hb => by rw [blk_some] at hb; omega)
      replace hlit := hlit.agr hA (fun b hb => by rw [blk_some] at hb; omega)
      clear hA hBU
      clear hU hR
      obtain ⟨kv, hkv, hkb⟩ : ∃ kv : Int, w5.cell? ⟨bl, k5, none⟩ = some (.int .i64 kv) ∧ 0 ≤ kv ∧ kv ≤ 7 := by
        match k5, hk5 with
        | 0, _ => exact ⟨_, (hlit.at0 (j := 0) rfl).1, by decide⟩
        | 1, _ => exact ⟨_, (hlit.at0 (j := 1) rfl).1, by decide⟩
      have HKB := Lib.hid hkb
      have hk5i : (k5 : Int) < 2 := by omega
      clear hkb hlit
      obtain ⟨⟨g0, g1, g2, g3, g4⟩, j0, j1, j2, j3, j4⟩ := hex.ev5
      have hWr : Wrote w5 (w5.setCell ⟨be, 1, none⟩ (.int .i64 kv)) be (0 + 1) [.int .i64 kv] := by rw [Nat.zero_add]; exact wrote_one g1 _
      have hAg := hWr.agr
      have hex2 : Row (w5.setCell ⟨be, 1, none⟩ (.int .i64 kv)) (some ⟨be, 0, none⟩) [.int .i64 x.kind, .int .i64 kv, .int .i64 x.b, .int .i64 x.c, .bool x.torn] := hWr.row hex (by simp)
      replace hv := hv.agr hAg (fun b hb => by rw [blk_some] at hb; omega)
      replace hO := hO.agr hAg (fun b h1 h2 h3 => by omega)
      have hB6 : Below w.heap.size w (w5.setCell ⟨be, 1, none⟩ (.int .i64 kv)) := hB5.trans (hAg.below (B := w.heap.size) (by omega) (fun i hi => by omega))
      have hzx := lt_of_cell x0
      have hzq := lt_of_cell q0
      have n0 := (hAg.cell (b := bx) hzx (by omega) 0).trans x0
      have n1 := (hAg.cell (b := bx) hzx (by omega) 1).trans x1
      have p0 := (hAg.cell (b := w.heap.size) hzq (by omega) 0).trans q0
      have p1 := (hAg.cell (b := w.heap.size) hzq (by omega) 1).trans q1
      have p2 := (hAg.fz (b := w.heap.size) hzq (by omega) 0).trans f0
      have p3 := (hAg.fz (b := w.heap.size) hzq (by omega) 1).trans f1
      have hsX := hWr.size
      clear hWr hAg hex
      obtain ⟨⟨g0, g1, g2, g3, g4⟩, _⟩ := hex2.ev5
      obtain ⟨⟨v0, v1, v2, v3, v4⟩, u0, u1, u2, u3, u4⟩ := hv.ev5
      have hzb := lt_of_cell n0
      have hzw := lt_of_cell p0
      have hze := lt_of_cell g0
      go_wp2
      have hd0 : (w5.setCell ⟨be, 1, none⟩ (.int .i64 kv)).drew.cell? ⟨bx, 0, none⟩ = some (.slice A2 s.flash.length c2) := n0
      have hd1 : (w5.setCell ⟨be, 1, none⟩ (.int .i64 kv)).drew.cell? ⟨bx, 1, none⟩ = some (.slice D2 s.disk.length d2) := n1
      go_region
      all_goals
        go_wp2
        refine bodyPost_ret (v := .tuple #[.agg #[.slice A2 s.flash.length c2, .slice D2 s.disk.length d2], .agg #[.int .i64 x.kind, .int .i64 kv, .int .i64 x.b, .int .i64 x.c, .bool x.torn]]) (by simp [results, Try.results15, go_sem, p0, p1, v0, v1, v2, v3, v4]) rfl ⟨A2, D2, c2, d2, s, ⟨x.kind, kv, x.b, x.c, x.torn⟩, rfl, (by have h := HXF.out; unfold evFine at h; have h2 := HKB.out; unfold evSmall; dsimp only; omega), StoreD.two HS.out hO hB6 (by omega) (by omega) ?_⟩
        repeat (first | (with_reducible exact Agr.refl _ _) | (with_reducible refine Agr.drew ?_) | (with_reducible refine Agr.setCell ?_ (.inr (by first | exact .inl rfl | exact .inr rfl)) _))
    · by_cases h2 : k4 = 2
      · subst h2
        clear hR
        obtain ⟨⟨g0, g1, g2, g3, g4⟩, j0, j1, j2, j3, j4⟩ := hex.ev5
        have hWr : Wrote w4 (w4.setCell ⟨be, 3, none⟩ (.int .i64 (-1))) be (0 + 3) [.int .i64 (-1)] := by rw [Nat.zero_add]; exact wrote_one g3 _
        have hAg := hWr.agr
        have hex2 : Row (w4.setCell ⟨be, 3, none⟩ (.int .i64 (-1))) (some ⟨be, 0, none⟩) [.int .i64 x.kind, .int .i64 x.a, .int .i64 x.b, .int .i64 (-1), .bool x.torn] := hWr.row hex (by simp)
        replace hv := hv.agr hAg (fun b hb => by rw [blk_some] at hb; omega)
        replace hO := hO.agr hAg (fun b h1 h2 h3 => by omega)
        have hB6 : Below w.heap.size w (w4.setCell ⟨be, 3, none⟩ (.int .i64 (-1))) := hB4.trans (hAg.below (B := w.heap.size) (by omega) (fun i hi => by omega))
        have hzx := lt_of_cell x0
        have hzq := lt_of_cell q0
        have n0 := (hAg.cell (b := bx) hzx (by omega) 0).trans x0
        have n1 := (hAg.cell (b := bx) hzx (by omega) 1).trans x1
        have p0 := (hAg.cell (b := w.heap.size) hzq (by omega) 0).trans q0
        have p1 := (hAg.cell (b := w.heap.size) hzq (by omega) 1).trans q1
        have p2 := (hAg.fz (b := w.heap.size) hzq (by omega) 0).trans f0
        have p3 := (hAg.fz (b := w.heap.size) hzq (by omega) 1).trans f1
        have hsX := hWr.size
        clear hWr hAg hex
        obtain ⟨⟨g0, g1, g2, g3, g4⟩, _⟩ := hex2.ev5
        obtain ⟨⟨v0, v1, v2, v3, v4⟩, u0, u1, u2, u3, u4⟩ := hv.ev5
        have hzb := lt_of_cell n0
        have hzw := lt_of_cell p0
        have hze := lt_of_cell g0
        go_wp2
        have hd0 : (w4.setCell ⟨be, 3, none⟩ (.int .i64 (-1))).drew.cell? ⟨bx, 0, none⟩ = some (.slice A2 s.flash.length c2) := n0
        have hd1 : (w4.setCell ⟨be, 3, none⟩ (.int .i64 (-1))).drew.cell? ⟨bx, 1, none⟩ = some (.slice D2 s.disk.length d2) := n1
        go_region
        all_goals
          go_wp2
          refine bodyPost_ret (v := .tuple #[.agg #[.slice A2 s.flash.length c2, .slice D2 s.disk.length d2], .agg #[.int .i64 x.kind, .int .i64 x.a, .int .i64 x.b, .int .i64 (-1), .bool x.torn]]) (by simp [results, Try.results15, go_sem, p0, p1, v0, v1, v2, v3, v4]) rfl ⟨A2, D2, c2, d2, s, ⟨x.kind, x.a, x.b, (-1), x.torn⟩, rfl, (by have h := HXF.out; unfold evFine at h; unfold evSmall; dsimp only; omega), StoreD.two HS.out hO hB6 (by omega) (by omega) ?_⟩
          repeat (first | (with_reducible exact Agr.refl _ _) | (with_reducible refine Agr.drew ?_) | (with_reducible refine Agr.setCell ?_ (.inr (by first | exact .inl rfl | exact .inr rfl)) _))
      · have m0 : ((k4 : Int) == 0) = false := by rw [beq_eq_false_iff_ne]; omega
        have m1 : ((k4 : Int) == 1) = false := by rw [beq_eq_false_iff_ne]; omega
        have m2 : ((k4 : Int) == 2) = false := by rw [beq_eq_false_iff_ne]; omega
        clear hR
        obtain ⟨⟨g0, g1, g2, g3, g4⟩, _⟩ := hex.ev5
        obtain ⟨⟨v0, v1, v2, v3, v4⟩, u0, u1, u2, u3, u4⟩ := hv.ev5
        have hzb := lt_of_cell x0
        have hzw := lt_of_cell q0
        have hze := lt_of_cell g0
        go_wp2
        have hd0 : w4.drew.cell? ⟨bx, 0, none⟩ = some (.slice A2 s.flash.length c2) := x0
        have hd1 : w4.drew.cell? ⟨bx, 1, none⟩ = some (.slice D2 s.disk.length d2) := x1
        go_region
        all_goals
          go_wp2
          refine bodyPost_ret (v := .tuple #[.agg #[.slice A2 s.flash.length c2, .slice D2 s.disk.length d2], .agg #[.int .i64 x.kind, .int .i64 x.a, .int .i64 x.b, .int .i64 x.c, .bool x.torn]]) (by simp [results, Try.results15, go_sem, q0, q1, v0, v1, v2, v3, v4]) rfl ⟨A2, D2, c2, d2, s, ⟨x.kind, x.a, x.b, x.c, x.torn⟩, rfl, (by have h := HXF.out; unfold evFine at h; unfold evSmall; dsimp only; omega), StoreD.two HS.out hO hB4 (by omega) (by omega) ?_⟩
          repeat (first | (with_reducible exact Agr.refl _ _) | (with_reducible refine Agr.drew ?_) | (with_reducible refine Agr.setCell ?_ (.inr (by first | exact .inl rfl | exact .inr rfl)) _))
theorem spec_DrawPlaySteps (A : Option Addr) (bs : List Nat) (c : Nat) (w : World) (hc : Code w A bs c) :
    Calls Try.prog 23 #[.slice A bs.length c] w (fun e w' => ∃ A2 D2 c2 d2 s x, e = .returned (.tuple #[.agg #[.slice A2 s.flash.length c2, .slice D2 s.disk.length d2], .agg #[.int .i64 x.kind, .int .i64 x.a, .int .i64 x.b, .int .i64 x.c, .bool x.torn]]) ∧ evSmall x ∧ StoreD w w' A2 D2 s) := by
  obtain ⟨W0, hW0⟩ : ∃ W, (w.alloc (.cells #[.slice none 0 0, .slice none 0 0] 26)).alloc (.cells #[.int .i64 0, .int .i64 0, .int .i64 0, .int .i64 0, .bool false] 28) = W := ⟨_, rfl⟩
  have hs0 : W0.heap.size = w.heap.size + 2 := by rw [← hW0]; simp
  have hB0 : Below w.heap.size w W0 := by rw [← hW0]; (repeat (first | (with_reducible exact Below.refl _ _) | (with_reducible assumption) | (refine Below.setCell ?_ (by first | omega | exact hB.size | exact hb.size | (have h := hB.size; simp; omega) | (have h := hb.size; simp; omega) | (simp; omega) | simp) _) | (refine Below.alloc ?_ (by first | omega | exact hB.size | exact hb.size | (have h := hB.size; simp; omega) | (have h := hb.size; simp; omega) | (simp; omega) | simp) _) | (refine Below.drew ?_)))
  have hrow := (hc.row.alloc (.cells #[.slice none 0 0, .slice none 0 0] 26)).alloc (.cells #[.int .i64 0, .int .i64 0, .int .i64 0, .int .i64 0, .bool false] 28)
  have hq := (Row.new w #[.slice none 0 0, .slice none 0 0] 26).alloc (.cells #[.int .i64 0, .int .i64 0, .int .i64 0, .int .i64 0, .bool false] 28)
  obtain ⟨q0, f0⟩ := hq.at0 (j := 0) rfl
  obtain ⟨q1, f1⟩ := hq.at0 (j := 1) rfl
  have hv := Row.new (w.alloc (.cells #[.slice none 0 0, .slice none 0 0] 26)) #[.int .i64 0, .int .i64 0, .int .i64 0, .int .i64 0, .bool false] 28
  simp only [World.size_alloc] at hv
  rw [hW0] at q0 q1 f0 f1 hrow hv
  clear hq
  go_enter Try.func23, Try.ntmps23
  go_wp2_with fail
  (try rw [hW0])
  refine (spec_DrawPlayDo A bs c _ ⟨hc.len, hc.cap, hc.byte, hrow⟩).mono ?_
  rintro e w1 ⟨A2, D2, c2, d2, s, x, rfl, hxs, hsm, hO, hb⟩
  have hs1 := hb.size
  obtain ⟨q0, q1, f0, f1⟩ := four_cells hb (b := w.heap.size) (by omega) q0 q1 f0 f1
  replace hv := hv.below hb (Nat.le_refl _)
  have hB1 := hB0.trans (hb.mono (by omega))
  replace hO : OSt w1 (w.heap.size + 2) w1.heap.size A2 s.flash D2 s.disk := hO.mono (by omega) (Nat.le_refl _)
  obtain ⟨⟨v0, v1, v2, v3, v4⟩, u0, u1, u2, u3, u4⟩ := hv.ev5
  have HS := Lib.hid hsm
  have HX := Lib.hid hxs
  have hzq := lt_of_cell q0
  clear hsm hxs hb hB0 hrow hW0
  go_wp2
  refine bodyPost_ret (v := .tuple #[.agg #[.slice A2 s.flash.length c2, .slice D2 s.disk.length d2], .agg #[.int .i64 x.kind, .int .i64 x.a, .int .i64 x.b, .int .i64 x.c, .bool x.torn]]) (by simp [results, Try.results23, go_sem, q0, q1, v0, v1, v2, v3, v4]) rfl ⟨A2, D2, c2, d2, s, x, rfl, HX.out, StoreD.two HS.out hO hB1 (by omega) (Nat.le_refl _) ?_⟩
  repeat (first | (with_reducible exact Agr.refl _ _) | (with_reducible refine Agr.drew ?_) | (with_reducible refine Agr.setCell ?_ (.inr (by first | exact .inl rfl | exact .inr rfl)) _))
end Go.Proofs.Ytbekihiiildgmaa
namespace Go.Proofs.Ytbekihiiildgmaa
set_option linter.unusedVariables false
set_option linter.unusedSimpArgs false
/-- one block differs, in what can be seen -/
structure TornD (f g : List Bk) (i : Nat) (b c : Bk) : Prop where
  at_ : f[i]? = some b
  new_ : g[i]? = some c
  len : g.length = f.length
  far : ∀ j, j ≠ i → g[j]? = f[j]?
  diff : c.worn ≠ b.worn ∨ c.worn = b.worn ∧ ∃ k p q, c.pages = b.pages.set k q ∧ b.pages[k]? = some p ∧ q.state ≠ p.state
theorem doTo_head {s : St} {x : Sp} {xs : List Sp} : doTo s (x :: xs) 0 true = doStep s x true := by
  unfold doTo
  rw [if_pos ⟨rfl, Int.le_refl _, by simp⟩]
  rfl
theorem set_torn {f : List Bk} {i : Nat} {b : Bk} (h : f[i]? = some b) (c : Bk) (hd : c.worn ≠ b.worn ∨ c.worn = b.worn ∧ ∃ k p q, c.pages = b.pages.set k q ∧ b.pages[k]? = some p ∧ q.state ≠ p.state) : TornD f (f.set i c) i b c :=
  have hl := (List.getElem?_eq_some_iff.1 h).1
  ⟨h, by rw [List.getElem?_set_self hl], List.length_set, fun j hj => List.getElem?_set_ne (fun e => hj e.symm), hd⟩
theorem wr_torn {s : St} (h : Okay s) {k a v : Int} (hne : wr s.flash k a v ≠ []) (h2 : k = 2 → dk s a = v ∧ readV s a = v) : ∃ x xs, wr s.flash k a v = x :: xs ∧ ((x.kind = 1 ∧ doStep s x true = s) ∨ (x.kind ≠ 1 ∧ ∃ g i b c, doStep s x true = ⟨g, s.disk⟩ ∧ TornD s.flash g i b c)) := by
  have hfl := h.flash
  have h4 := fun b hb => (flashOk_shape hfl b hb).1
  have hl := flashOk_len hfl
  unfold wr at hne ⊢
  by_cases hc : (room s.flash).2.2 = false ∨ recOk ⟨k, next s.flash, a, v⟩ = false
  · rw [if_pos hc] at hne; exact absurd rfl hne
  · rw [if_neg hc]
    have hr : recOk ⟨k, next s.flash, a, v⟩ = true := by simpa using fun e => hc (.inr e)
    have hroom : (room s.flash).2.2 ≠ false := fun e => hc (.inl e)
    clear hne hc
    by_cases ho : (openB s.flash).2 = true
    · obtain ⟨m, b, h1, hb, hcb, hS⟩ := open_sole hfl h.isOrd (by rw [← openI_eq h4]; exact ho)
      have hob : (openB s.flash).1 = m := by rw [openI_eq h4, h1]
      unfold room
      rw [if_pos ho, hob]
      dsimp only
      rw [List.nil_append]
      obtain ⟨w1, _⟩ := write_fin (s := s) (t := s) h (Same.refl s) (Int.le_refl _) (by omega) (fun _ h => h) (fun _ _ _ => .inl rfl) hb hcb hS hr (fun e => (h2 e).1)
      obtain ⟨p1, _, p3, _⟩ := bk_parts hfl (List.mem_of_getElem? hb)
      obtain ⟨_, ⟨p, hp, hp0⟩, _⟩ := shape_put (q := ⟨2, rc0⟩) p1 p3 (by decide) hcb
      exact ⟨_, _, rfl, .inr ⟨(show (3 : Int) ≠ 1 by decide), _, m, b, _, w1.1, set_torn hb _ (.inr ⟨rfl, 4 - clean b, p, ⟨2, rc0⟩, rfl, hp, by rw [hp0]; decide⟩)⟩⟩
    · have hi := old_lt4 hl
      obtain ⟨b, hb⟩ := get_some (l := s.flash) (k := old s.flash) (by omega)
      unfold room at hroom ⊢
      rw [if_neg ho] at hroom ⊢
      dsimp only at hroom ⊢
      rw [getD_of hb] at hroom ⊢
      have hw : b.worn < 200 := by simpa using hroom
      rw [List.append_assoc]
      cases ht : tells s.flash b.pages with
      | nil =>
        refine ⟨_, _, rfl, .inr ⟨(show (2 : Int) ≠ 1 by decide), wipe s.flash (old s.flash) true, old s.flash, b, _, ?_, set_torn hb _ (.inl ?_)⟩⟩
        · unfold doStep
          rw [if_neg (by dsimp only; decide), if_pos rfl]
          dsimp only
          unfold wipeR
          rw [Int.toNat_natCast, getD_of hb, if_neg (by omega)]
        · dsimp only
          rw [getD_of hb]
          omega
      | cons x xs =>
        have hx : x ∈ tells s.flash b.pages := by rw [ht]; exact List.mem_cons_self
        have hk : x.kind = 1 := by
          unfold tells at hx
          obtain ⟨p, _, rfl⟩ := List.mem_map.1 hx
          rfl
        refine ⟨x, _, rfl, .inl ⟨hk, ?_⟩⟩
        unfold doStep
        rw [if_pos hk, if_pos rfl]
end Go.Proofs.Ytbekihiiildgmaa
namespace Go.Proofs.Ytbekihiiildgmaa
set_option linter.unusedVariables false
set_option linter.unusedSimpArgs false
open Go.RowKit Go.Maps Go.IntWalk
set_option maxHeartbeats 4000000
theorem laws_lqPages_no (A A' : Option Addr) (n m c c' i : Nat) (ps : List Pg) (p q : Pg) (w : World) (hn : n = ps.length) (hm : m = ps.length) (hl : ps.length < 1000000000000) (hp : ps[i]? = some p) (hd : q.state ≠ p.state) (hR : Row w A (pgs (ps.set i q))) (hR' : Row w A' (pgs ps)) :
    Calls Try.prog 110 #[.slice A n c, .slice A' m c'] w fun e w' => e = .returned (.bool false) ∧ Below w.heap.size w w' := by
  subst hn; subst hm
  have hil := (List.getElem?_eq_some_iff.1 hp).1
  go_enter Try.func110, Try.ntmps110
  go_wp2
  go_loopw [5] (fun j wr => ∃ (k : Nat), k ≤ i ∧ j = .int .i64 k ∧ Below w.heap.size w wr) (fun j _ => ps.length - (intOf j).toNat)
  case atStart => exact ⟨0, by omega, rfl, Below.refl _ _⟩
  case round =>
    obtain ⟨k, hk, rfl, hb⟩ := hrel
    have hk1 : (k : Int) < ps.length := by omega
    have hne : ps ≠ [] := by rintro rfl; simp at hp
    obtain ⟨b, o, rfl⟩ := hR.addr (pgs_ne (by intro e; have := congrArg List.length e; simp at this; exact hne this))
    obtain ⟨b', o', rfl⟩ := hR'.addr (pgs_ne hne)
    have hRk := hR.below hb (Nat.le_refl _)
    have hRk' := hR'.below hb (Nat.le_refl _)
    by_cases hlt : k < i
    · obtain ⟨x, hx⟩ := get_some (l := ps) (k := k) (by omega)
      obtain ⟨c0, c1, c2, c3, c4⟩ := hRk.pg (k := k) (p := x) (by rw [List.getElem?_set_ne (by omega)]; exact hx)
      obtain ⟨d0, d1, d2, d3, d4⟩ := hRk'.pg hx
      clear hx hp
      go_wp2
      go_quiet (fail)
      have hb2 : Below w.heap.size w (wr.drewN nq) := Below.trans hb (Below.drewN' _ _ _)
      go_wp2
      go_roundw
      case rel => exact ⟨k + 1, by omega, by go_num, hb2⟩
      case measure => simp [intOf]; omega
    · obtain rfl : k = i := by omega
      obtain ⟨c0, c1, c2, c3, c4⟩ := hRk.pg (k := k) (p := q) (by rw [List.getElem?_set_self hil])
      obtain ⟨d0, d1, d2, d3, d4⟩ := hRk'.pg hp
      obtain ⟨q0, q1⟩ := q
      obtain ⟨p0, p1⟩ := p
      dsimp only at *
      have hds : (q0 == p0) = false := by simpa using hd
      clear hp
      go_wp2
      go_quiet (fail)
      have hb2 : Below w.heap.size w (wr.drewN nq) := Below.trans hb (Below.drewN' _ _ _)
      go_wp2
      go_ret
      exact ⟨rfl, hb2⟩
theorem laws_lqFlash_no (A A' : Option Addr) (n m c c' i : Nat) (f g : List Bk) (x y : Bk) (w : World) (hn : n = f.length) (hm : m = f.length) (hT : TornD f g i x y) (hl : f.length < 1000000000000) (hp : ∀ b ∈ f, b.pages.length < 1000000000000) (hF : Fl w A g) (hF' : Fl w A' f) :
    Calls Try.prog 61 #[.slice A n c, .slice A' m c'] w fun e w' => e = .returned (.bool false) ∧ Below w.heap.size w w' := by
  subst hn; subst hm
  obtain ⟨hs, hF⟩ := hF
  obtain ⟨ks, hF'⟩ := hF'
  have HP := Lib.hid hp
  have HT := Lib.hid hT
  have hil := (List.getElem?_eq_some_iff.1 hT.at_).1
  have hgl : Hid (g.length = f.length) := hT.len
  clear hp hT
  go_enter Try.func61, Try.ntmps61
  go_wp2
  go_loopw [5] (fun j wr => ∃ (k : Nat), k ≤ i ∧ j = .int .i64 k ∧ Below w.heap.size w wr) (fun j _ => f.length - (intOf j).toNat)
  case atStart => exact ⟨0, by omega, rfl, Below.refl _ _⟩
  case round =>
    obtain ⟨k, hk, rfl, hb⟩ := hrel
    have hk1 : (k : Int) < f.length := by omega
    obtain ⟨b, o, rfl⟩ := hF.addr (by rintro rfl; have := hgl.out; simp at this; omega)
    obtain ⟨b', o', rfl⟩ := hF'.addr (by rintro rfl; simp at hil)
    have hFk := hF.below hb (Nat.le_refl _)
    have hFk' := hF'.below hb (Nat.le_refl _)
    by_cases hlt : k < i
    · obtain ⟨p, hp⟩ := get_some (l := f) (k := k) (by omega)
      have hpl := HP.out p (List.mem_of_getElem? hp)
      obtain ⟨⟨Ap, cp⟩, _, c0, c1, _, _, hRp, _⟩ := hFk.at_ (i := k) (b := p) (by rw [HT.out.far k (by omega)]; exact hp)
      obtain ⟨⟨Aq, cq⟩, _, d0, d1, _, _, hRq, _⟩ := hFk'.at_ hp
      dsimp only at *
      have hbb := lt_of_cell c0
      have hbb' := lt_of_cell d0
      clear hp
      go_wp2
      go_region_held3 (fun w' => w'.cell? ⟨b, o + k * 2, none⟩ = some (.slice Ap p.pages.length cp) ∧ w'.cell? ⟨b, o + k * 2 + 1, none⟩ = some (.int .i64 p.worn) ∧ w'.cell? ⟨b', o' + k * 2, none⟩ = some (.slice Aq p.pages.length cq) ∧ w'.cell? ⟨b', o' + k * 2 + 1, none⟩ = some (.int .i64 p.worn))
        (first | go_keep | trivial)
        (first | (go_at_call 110; refine (laws_lqPages Ap Aq _ cp cq p.pages _ rfl hpl hRp.drew hRq.drew).mono ?_; rintro e w1 ⟨rfl, hb1⟩; replace hb1 := undrew hb1; have e0 := (hb1.cell (p := ⟨b, o + k * 2, none⟩) hbb).trans c0; have e1 := (hb1.cell (p := ⟨b, o + k * 2 + 1, none⟩) hbb).trans c1; have g0 := (hb1.cell (p := ⟨b', o' + k * 2, none⟩) hbb').trans d0; have g1 := (hb1.cell (p := ⟨b', o' + k * 2 + 1, none⟩) hbb').trans d1))
      have hB1 := hb.trans (hb1.mono hb.size)
      go_wp2
      go_roundw
      case rel => exact ⟨k + 1, by omega, by go_num, hB1⟩
      case measure => simp [intOf]; omega
    · obtain rfl : k = i := by omega
      have hxl := HP.out x (List.mem_of_getElem? HT.out.at_)
      obtain ⟨⟨Ap, cp⟩, _, c0, c1, _, _, hRp, _⟩ := hFk.at_ HT.out.new_
      obtain ⟨⟨Aq, cq⟩, _, d0, d1, _, _, hRq, _⟩ := hFk'.at_ HT.out.at_
      dsimp only at *
      have hbb := lt_of_cell c0
      have hbb' := lt_of_cell d0
      rcases HT.out.diff with hw | ⟨hw, j, p, q, hpg, hpj, hpq⟩
      · have hne : (y.worn != x.worn) = true := by simpa using hw
        clear HT HP
        go_wp2
        go_quiet (fail)
        have hb2 : Below w.heap.size w (wr.drewN nq) := Below.trans hb (Below.drewN' _ _ _)
        go_wp2
        go_ret
        exact ⟨rfl, hb2⟩
      · obtain ⟨yp, yw⟩ := y
        dsimp only at *
        subst hw
        subst hpg
        rw [List.length_set] at c0
        clear HT HP
        go_wp2
        go_region_held3 (fun w' => w'.cell? ⟨b, o + k * 2, none⟩ = some (.slice Ap x.pages.length cp) ∧ w'.cell? ⟨b, o + k * 2 + 1, none⟩ = some (.int .i64 x.worn) ∧ w'.cell? ⟨b', o' + k * 2, none⟩ = some (.slice Aq x.pages.length cq) ∧ w'.cell? ⟨b', o' + k * 2 + 1, none⟩ = some (.int .i64 x.worn))
          (first | go_keep | trivial)
          (first | (go_at_call 110; refine (laws_lqPages_no Ap Aq _ _ cp cq j x.pages p q _ rfl rfl hxl hpj hpq hRp.drew hRq.drew).mono ?_; rintro e w1 ⟨rfl, hb1⟩; replace hb1 := undrew hb1; have e0 := (hb1.cell (p := ⟨b, o + k * 2, none⟩) hbb).trans c0; have e1 := (hb1.cell (p := ⟨b, o + k * 2 + 1, none⟩) hbb).trans c1; have g0 := (hb1.cell (p := ⟨b', o' + k * 2, none⟩) hbb').trans d0; have g1 := (hb1.cell (p := ⟨b', o' + k * 2 + 1, none⟩) hbb').trans d1))
        have hB1 := hb.trans (hb1.mono hb.size)
        go_wp2
        go_ret
        exact ⟨rfl, hB1⟩
theorem laws_lqStore_torn {f g : List Bk} {i : Nat} {x y : Bk} (hT : TornD f g i x y) (A D A' D' : Option Addr) (n n' c d c' d' : Nat) (w : World) (hn : n = f.length) (hn' : n' = f.length) (hl : f.length < 1000000000000) (hp : ∀ b ∈ f, b.pages.length < 1000000000000) (hF : Fl w A g) (hF' : Fl w A' f) :
    Calls Try.prog 17 #[.agg #[.slice A n c, .slice D 6 d], .agg #[.slice A' n' c', .slice D' 6 d']] w fun e w' => e = .returned (.bool false) ∧ Below w.heap.size w w' := by
  have hB0 : Below w.heap.size w ((w.alloc (.cells #[.slice A n c, .slice D 6 d] 26)).alloc (.cells #[.slice A' n' c', .slice D' 6 d'] 26)) := by (repeat (first | (with_reducible exact Below.refl _ _) | (with_reducible assumption) | (refine Below.setCell ?_ (by first | omega | exact hB.size | exact hb.size | (have h := hB.size; simp; omega) | (have h := hb.size; simp; omega) | (simp; omega) | simp) _) | (refine Below.alloc ?_ (by first | omega | exact hB.size | exact hb.size | (have h := hB.size; simp; omega) | (have h := hb.size; simp; omega) | (simp; omega) | simp) _) | (refine Below.drew ?_)))
  have H1 := Lib.hid (laws_lqFlash_no A A' n n' c c' i f g x y _ hn hn' hT hl hp (hF.below hB0 (Nat.le_refl _)) (hF'.below hB0 (Nat.le_refl _)))
  clear hn hn' hl hp hF hF' hT
  go_enter Try.func17, Try.ntmps17
  go_wp2_with fail
  with_reducible refine H1.out.mono ?_
  rintro e w1 ⟨rfl, hb⟩
  have hB1 : Below w.heap.size w w1 := hB0.trans (hb.mono (by simp; omega))
  go_wp2
  go_ret
  exact ⟨rfl, hB1⟩
end Go.Proofs.Ytbekihiiildgmaa
namespace Go.Proofs.Ytbekihiiildgmaa
set_option linter.unusedVariables false
set_option linter.unusedSimpArgs false
open Go.RowKit Go.WideShapes Go.ChangeShapes
section
variable {H : Type} {enc : TypeId × Value → H} {P : Program}
/-- an argument reads behind the call as before, if below the heap's old size nothing has turned -/
theorem trod_kept {t : TypeId} (hl : laidOutB P = true) (hr : P.readableRec t = true) (hrow : t < P.types.size) {W W' : World} {v : Value} {d : DataW H} {ps qs : List MemPlace} {sp : Nat → Bool}
    (h : DataW.Trod enc P W 0 (fun _ => true) true t v d ps) (hb : Below W.heap.size W W') (hlt : ∀ x ∈ qs, x.block < W.heap.size) (hsp : ∀ p ∈ qs, sp p.block = true) (hq : ∀ x ∈ ps, x ∈ qs) : DataW.Trod enc P W' 0 sp true t v d ps :=
  WideElems.Trod_stays hl hr hrow h (fun x hx => hb.same (hlt x (hq x hx))) (fun x hx => hsp x (hq x hx))
theorem post_of_below {f : Func} {s : ChangeSpec} {apart fresh handsOn again : Bool} {W W' : World} {args : Array Value} {v : Value} {ds gs : List (DataW H)} {before pa pv : List MemPlace}
    (hW : DataW.Whole enc P f.params.toList s.vars apart W args.toList ds gs before)
    (hres : ∀ (b : Nat) (sp : Nat → Bool) (hd : Bool), DataW.TrodAll enc P W' b sp hd f.resultTypes.toList (v.resultList f.resultTypes.size) (s.fn H (ds ++ gs)).results [])
    (hargs : ∀ sp : Nat → Bool, (∀ p ∈ before, sp p.block = true) → DataW.TrodAll enc P W' 0 sp true f.params.toList args.toList (s.fn H (ds ++ gs)).args pa)
    (hvars : ∀ sp : Nat → Bool, (∀ p ∈ before, sp p.block = true) → DataW.TrodVars enc P W' sp s.vars (s.fn H (ds ++ gs)).vars pv)
    (hps : before = pa ++ pv) (hb : Below W.heap.size W W')
    (hok : ∀ (j : Nat) (t : TypeId) (r : Value), f.resultTypes[j]? = some t → (v.resultList f.resultTypes.size)[j]? = some r → Value.okWide P W' .any 0 t r) :
    s.post enc P f apart fresh handsOn again W args v W' := by
  have hlt : ∀ p ∈ before, p.block < W.heap.size := fun p hp => hW.lt p hp
  have hold : ∀ p ∈ before, (fun b => decide (b < W.heap.size)) p.block = true := fun p hp => by simpa using hlt p hp
  refine ⟨ds, gs, before, [], pa, pv, hW, hres _ _ _, hargs _ hold, hvars _ hold, World.keptBut_mono (fun p hp => ⟨hp, ?_⟩) (hb.frame (· ∈ before)), fun _ => ?_⟩
  · rw [hps, List.mem_append] at hp
    exact Or.inr hp
  · obtain ⟨_, _, _, _, _, hz, hn⟩ := hW
    refine ⟨hok, _, _, ([] ++ pa) ++ pv, ⟨[] ++ pa, pv, trodAll_append (hargs _ (fun _ _ => rfl)) (hres _ _ _), hvars _ (fun _ _ => rfl), rfl, ?_, ?_⟩, ?_⟩
    · intro b off hp
      have hin : MemPlace.cell b off ∈ before := by rw [hps]; simpa using hp
      rw [hb.frozen (hlt _ hin)]
      exact hz b off hin
    · intro ha
      have := hn ha
      rw [hps] at this
      simpa using this
    · intro p hp _
      rw [hps]
      simpa using hp
end
end Go.Proofs.Ytbekihiiildgmaa
namespace Go.Proofs.Ytbekihiiildgmaa
set_option linter.unusedVariables false
set_option linter.unusedSimpArgs false
open Go.RowKit Go.ChangeShapes Go.WideShapes Go.Deep
set_option maxRecDepth 100000
section
variable {H : Type} {enc : TypeId × Value → H} {w : World} {base fuel : Nat} {spare : Nat → Bool} {held : Bool}
theorem plain_addr' {w : World} {a : Addr} {u : Value} (h : w.cell? a = some u) : ∃ b o, a = ⟨b, o, none⟩ := by
  obtain ⟨b, o, s⟩ := a
  cases s with
  | none => exact ⟨b, o, rfl⟩
  | some s =>
    have : w.cell? ⟨b, o, some s⟩ = none := by
      unfold World.cell?
      split
      · exact if_pos rfl
      · rfl
    rw [this] at h; cases h
theorem cellsOf_u8 : Try.prog.cellsOf 5 = 1 := by kernel_rfl
theorem bytes_of {cs : List Value} {x : DataW H × List MemPlace} (h : DataW.trod enc Try.prog w base spare held fuel 22 cs = some x) : ∃ A c bs, cs = [.slice A (List.length bs) c] ∧ Code w A bs c := by
  rcases open_ints Try.underlying22 Try.underlying5 cellsOf_u8 h with ⟨rfl, _⟩ | ⟨a, len, cap, zs, rfl, _, hlc, hcm, hzl, _, hcell, hwf⟩
  · exact ⟨none, 0, [], rfl, ⟨Nat.le_refl _, by omega, by simp, fun h => absurd rfl h⟩⟩
  · have hlz : len ≤ zs.length := by rw [hzl]; split <;> omega
    have hz : ∀ i, i < zs.length → zs.getD i 0 ∈ zs := fun i hi => by
      rw [List.getD_eq_getElem?_getD, List.getElem?_eq_getElem hi]
      exact List.getElem_mem hi
    have hr : ∀ n ∈ zs, 0 ≤ n ∧ n < 256 := fun n hn => by
      have := hwf n hn
      have h1 : IntKind.u8.min = 0 := rfl
      have h2 : IntKind.u8.max = 255 := rfl
      change (decide (IntKind.u8.min ≤ n) && decide (n ≤ IntKind.u8.max)) = true at this
      rw [h1, h2] at this
      simp at this
      omega
    refine ⟨some a, cap, (List.range len).map fun i => (zs.getD i 0).toNat, by simp, ⟨by simpa using hlc, by unfold maxLen at hcm; omega, fun b hb => ?_, fun hne => ?_⟩⟩
    · obtain ⟨i, hi, rfl⟩ := List.mem_map.1 hb
      have := hr _ (hz i (by have := List.mem_range.1 hi; omega))
      omega
    · have hn : 0 < len := by
        rcases Nat.eq_zero_or_pos len with h0 | h0
        · rw [h0] at hne; simp [bytes] at hne
        · exact h0
      have h0 := hcell 0 (by omega)
      obtain ⟨b, o, rfl⟩ := plain_addr' (a := a) (by simpa [Addr.add] using h0)
      refine ⟨b, o, rfl, fun j u hj => ?_⟩
      have hjl : j < len := by
        have := (List.getElem?_eq_some_iff.1 hj).1
        simpa [bytes] using this
      have hc := hcell j (by omega)
      rw [addr_add] at hc
      rw [hc]
      have hb := hr _ (hz j (by omega))
      rw [bytes, List.getElem?_map, List.getElem?_map, List.getElem?_range hjl] at hj
      simp only [Option.map_some, Option.some.injEq] at hj
      rw [← hj]
      have : (((zs.getD j 0).toNat : Nat) : Int) = zs.getD j 0 := by omega
      rw [this]
end
end Go.Proofs.Ytbekihiiildgmaa
