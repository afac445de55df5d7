/- What the laws' walks share: words, plain laws, and the walks of functions, part 3. -/
import Derived.Deep.RegionHeld3
import Derived.Laws.MakeOwn
import Derived.BigQuiet
import Derived.Laws.Bits64
import Derived.Deep.Slices
import Derived.Test.YtohkoogmbfaceaaGreatY2
namespace Go.Proofs.YtohkoogmbfaceaaGreat
set_option linter.unusedVariables false
set_option linter.unusedSimpArgs false
open Go.RowKit Go.Shelf
attribute [local go_sem] Oper.semAt_some
set_option maxHeartbeats 400000
abbrev Sub (n : Nat) := { x : PgAt // x.1 < n }
theorem eachPageS_stops (F : Fence) (n : Nat) (hF : F.fn 81) (hro : F.round = none) (hn : 1 ≤ n) (Bs n₀ g o c : Nat) (f : List Bk) (hs : List (Option Addr × Nat)) (w : World) (hB : Bs < w.heap.size) (hn₀ : n₀ ≤ w.heap.size)
    (hBs : w.cell? ⟨Bs, 0, none⟩ = some (.slice (some ⟨g, o, none⟩) f.length c)) (hl : f.length < 1000000000000) (hp : ∀ b ∈ f, b.pages.length < 1000000000000)
    (hBk : Bks w (some ⟨g, o, none⟩) f hs) (hlow : ∀ b, fblk (some ⟨g, o, none⟩) hs b → b < n₀) :
    SeqStopsK F n Tryz.prog 81 #[.pointer (some ⟨Bs, 0, none⟩)] (fun x : Sub f.length => encP x.1) (Below n₀) (fun ys => ys.map Subtype.val = allFrom 0 f) (fun pre => pre.map Subtype.val <+: allFrom 0 f) (allFrom 0 f).length w := fun l J Jx W hW hJ _ hY h0 => by
  refine (eachPage1_in F n hF hro hn l Bs n₀ g o c f hs (fun pre V => ∃ pre' : List (Sub f.length), pre'.map Subtype.val = pre ∧ J pre' V) (fun pre V => ∃ pre' : List (Sub f.length), pre'.map Subtype.val = pre ∧ Jx pre' V) W (Nat.le_trans hn₀ hW.size)
    (fun s X Y row hs hg hr => by obtain ⟨p, e, h⟩ := hs; exact ⟨p, e, hJ p X Y row h hg hr⟩) (fun pre x W1 h1 h2 h3 => ?_) ((hW.cell (p := ⟨Bs, 0, none⟩) hB).trans hBs) hl hp (hBk.keep fun q hq hl => hW.block q (by omega)) hlow ⟨[], rfl, h0⟩).mono ?_
  · obtain ⟨pre', rfl, hj⟩ := h1
    refine (hY pre' ⟨x, h3.1⟩ W1 hj (by simpa using h2)).mono ?_
    rintro e V (⟨rfl, hj2, hk⟩ | ⟨rfl, hj2⟩)
    · exact .inl ⟨rfl, ⟨_, by simp, hj2⟩, hk⟩
    · exact .inr ⟨rfl, _, by simp, hj2⟩
  · rintro e V ⟨he, ⟨ys, rfl, pre', h1, h2⟩ | ⟨pre, h0, pre', rfl, h2⟩⟩
    · exact ⟨he, .inl ⟨pre', h1, h2⟩⟩
    · exact ⟨he, .inr ⟨pre', h0, h2⟩⟩
abbrev Span := Int × Int
def Spn (s : Span) : List Value := [.int .i64 s.1, .int .i64 s.2]
def spv (ss : List Span) : List Value := ss.flatMap Spn
def lowOf (s : Span) (q : Int) : Int := if s.1 = 0 ∨ q < s.1 then q else s.1
def spStep (ss : List Span) (x : PgAt) : List Span := if x.2.2.state = 1 then ss.set x.1 (lowOf (ss.getD x.1 (0, 0)) x.2.2.rc.seq, max (ss.getD x.1 (0, 0)).2 x.2.2.rc.seq) else ss
def spOf (pre : List PgAt) : List Span := pre.foldl spStep (List.replicate 4 (0, 0))
theorem spOf_snoc (pre : List PgAt) (x : PgAt) : spOf (pre ++ [x]) = spStep (spOf pre) x := by unfold spOf; rw [List.foldl_append]; rfl
theorem spStep_len (ss : List Span) (x : PgAt) : (spStep ss x).length = ss.length := by unfold spStep; split <;> simp
theorem spOf_len (pre : List PgAt) : (spOf pre).length = 4 := by
  have : ∀ (pre : List PgAt) (ss : List Span), (pre.foldl spStep ss).length = ss.length := by
    intro pre
    induction pre with
    | nil => intro ss; rfl
    | cons x pre ih => intro ss; rw [List.foldl_cons, ih, spStep_len]
  rw [spOf, this]; rfl
theorem row_own (A : Option Addr) (vs : List Value) (n₀ : Nat) : OwnFrom n₀ (fun (_ : Unit) W => Row W A vs) := fun _ X Y row hs hg hr hn => by
  obtain ⟨b, o, rfl, hc⟩ := hs hn
  exact ⟨b, o, rfl, fun j u hj => ⟨cell_kept (hc j u hj).1 hg (fun r e => (hr r e).2), (frozen_kept (hc j u hj).1 hg (fun r e => (hr r e).2)).trans (hc j u hj).2⟩⟩
theorem Row.span {w : World} {b k : Nat} {ss : List Span} {s : Span} (h : Row w (some ⟨b, 0, none⟩) (spv ss)) (hk : ss[k]? = some s) :
    w.cell? ⟨b, k * 2, none⟩ = some (.int .i64 s.1) ∧ w.cell? ⟨b, k * 2 + 1, none⟩ = some (.int .i64 s.2) ∧ w.frozen? ⟨b, k * 2, none⟩ = false ∧ w.frozen? ⟨b, k * 2 + 1, none⟩ = false := by
  have hne : spv ss ≠ [] := by
    intro e
    cases ss with
    | nil => simp at hk
    | cons a ss => simp [spv, Spn] at e
  obtain ⟨b', o', he, hc⟩ := h hne
  cases he
  have hg : ∀ j u, (Spn s)[j]? = some u → j < 2 → w.cell? ⟨b, 0 + (k * 2 + j), none⟩ = some u ∧ w.frozen? ⟨b, 0 + (k * 2 + j), none⟩ = false := fun j u hj hl => hc (k * 2 + j) u (by rw [spv, flat_get _ 2 (fun _ => rfl) ss k j s hk hl]; exact hj)
  have h0 := hg 0 _ rfl (by omega)
  have h1 := hg 1 _ rfl (by omega)
  rw [Nat.zero_add] at h0 h1
  exact ⟨h0.1, h1.1, h0.2, h1.2⟩
theorem spv_set : ∀ (ss : List Span) (k : Nat) (s : Span), k < ss.length → spv (ss.set k s) = setL (spv ss) (k * 2) (Spn s)
  | [], k, s, h => by simp at h
  | q :: ss, 0, s, _ => by simp [spv, Spn, setL]
  | q :: ss, k + 1, s, h => by
    have ih := spv_set ss k s (by simpa using h)
    rw [List.set_cons_succ]
    show Spn q ++ spv (ss.set k s) = setL (Spn q ++ spv ss) _ _
    rw [ih, show (k + 1) * 2 = (Spn q).length + k * 2 by simp [Spn]; omega, setL_right]
theorem spv_len (ss : List Span) : (spv ss).length = ss.length * 2 := flat_len _ 2 (fun _ => rfl) ss
theorem make_spans (w : World) : (Instr.makeSlice 94 (.int .i64 4) (.int .i64 4)).run Tryz.prog w = .ok (.slice (some ⟨w.heap.size, 0, none⟩) 4 4) (w.alloc (.cells #[.int .i64 0, .int .i64 0, .int .i64 0, .int .i64 0, .int .i64 0, .int .i64 0, .int .i64 0, .int .i64 0] 97)) := by kernel_rfl
set_option maxRecDepth 100000 in
set_option maxHeartbeats 4000000 in
theorem impl_spansOf (f : List Bk) (hs : List (Option Addr × Nat)) (g o c : Nat) (w : World) (hl : f.length = 4) (hp : ∀ b ∈ f, b.pages.length = 4) (hBk : Bks w (some ⟨g, o, none⟩) f hs) (hlow : ∀ b, fblk (some ⟨g, o, none⟩) hs b → b < w.heap.size) :
    Calls Tryz.prog 60 #[.slice (some ⟨g, o, none⟩) 4 c] w fun e w' => ∃ b, e = .returned (.slice (some ⟨b, 0, none⟩) 4 4) ∧ w.heap.size ≤ b ∧ Row w' (some ⟨b, 0, none⟩) (spv (spOf (allFrom 0 f))) ∧ Below w.heap.size w w' := by
  refine (callsIn_wide (n := 6)).1 ?_
  refine callsIn_of_wp_marks Tryz.func60 rfl trivial ?_ rfl
  simp only [Tryz.ntmps60, List.size_toArray, List.length_cons, List.length_nil, Nat.reduceAdd, Nat.reduceSub, Array.replicate_succ, Array.replicate_zero, List.push_toArray, List.append_toArray, List.nil_append, List.cons_append]
  have hmk := make_spans
  have HL := Lib.hid hl
  have HP := Lib.hid hp
  clear hl hp
  gi_wp2_with (first | (refine ⟨trivial, ?_⟩; gi_at_call 62; refine (eachPage_in Fence.wide _ trivial rfl _ _ _ _).mono ?_; rintro e w2 ⟨rfl, rfl⟩))
  have hsz : ((((w.alloc (.cells #[.int .i64 0, .int .i64 0, .int .i64 0, .int .i64 0, .int .i64 0, .int .i64 0, .int .i64 0, .int .i64 0] 97)).alloc (.cells #[.slice (some ⟨w.heap.size, 0, none⟩) 4 4] 94)).alloc (.cells #[.slice (some ⟨g, o, none⟩) 4 c] 24))).heap.size = w.heap.size + 3 := by simp
  have bV := (Boxed.new (w.alloc (.cells #[.int .i64 0, .int .i64 0, .int .i64 0, .int .i64 0, .int .i64 0, .int .i64 0, .int .i64 0, .int .i64 0] 97)) 94 (.slice (some ⟨w.heap.size, 0, none⟩) 4 4)).alloc (.cells #[.slice (some ⟨g, o, none⟩) 4 c] 24)
  have bA := Boxed.new ((w.alloc (.cells #[.int .i64 0, .int .i64 0, .int .i64 0, .int .i64 0, .int .i64 0, .int .i64 0, .int .i64 0, .int .i64 0] 97)).alloc (.cells #[.slice (some ⟨w.heap.size, 0, none⟩) 4 4] 94)) 24 (.slice (some ⟨g, o, none⟩) 4 c)
  simp only [World.size_alloc] at bV bA
  have hR0 : Row _ _ (spv (spOf [])) := ((Row.new w #[.int .i64 0, .int .i64 0, .int .i64 0, .int .i64 0, .int .i64 0, .int .i64 0, .int .i64 0, .int .i64 0] 97).alloc (.cells #[.slice (some ⟨w.heap.size, 0, none⟩) 4 4] 94)).alloc (.cells #[.slice (some ⟨g, o, none⟩) 4 c] 24)
  have hBk0 := ((hBk.alloc (.cells #[.int .i64 0, .int .i64 0, .int .i64 0, .int .i64 0, .int .i64 0, .int .i64 0, .int .i64 0, .int .i64 0] 97)).alloc (.cells #[.slice (some ⟨w.heap.size, 0, none⟩) 4 4] 94)).alloc (.cells #[.slice (some ⟨g, o, none⟩) 4 c] 24)
  have hB0 : Below w.heap.size w (((w.alloc (.cells #[.int .i64 0, .int .i64 0, .int .i64 0, .int .i64 0, .int .i64 0, .int .i64 0, .int .i64 0, .int .i64 0] 97)).alloc (.cells #[.slice (some ⟨w.heap.size, 0, none⟩) 4 4] 94)).alloc (.cells #[.slice (some ⟨g, o, none⟩) 4 c] 24)) := (((Below.refl _ w).alloc (Nat.le_refl _) _).alloc (by simp) _).alloc (by simp; omega) _
  obtain ⟨W0, hW0⟩ : ∃ W0, ((w.alloc (.cells #[.int .i64 0, .int .i64 0, .int .i64 0, .int .i64 0, .int .i64 0, .int .i64 0, .int .i64 0, .int .i64 0] 97)).alloc (.cells #[.slice (some ⟨w.heap.size, 0, none⟩) 4 4] 94)).alloc (.cells #[.slice (some ⟨g, o, none⟩) 4 c] 24) = W0 := ⟨_, rfl⟩
  rw [hW0] at bV bA hR0 hB0 hsz hBk0 ⊢
  clear hW0 hmk
  have hcA : W0.cell? ⟨w.heap.size + 1 + 1, 0, none⟩ = some (.slice (some ⟨g, o, none⟩) f.length c) := by rw [HL.out]; exact bA.cell
  refine wpIn_rangeFunc_ownH rfl (by omega) (gf := 81) (lb := #[.pointer (some ⟨w.heap.size + 1 + 1, 0, none⟩)]) rfl trivial (enters_of Tryz.func81 (by kernel_rfl) rfl)
    (eachPageS_stops Fence.wide _ trivial rfl (by omega) (w.heap.size + 1 + 1) w.heap.size g o c f hs W0 (by omega) (by omega) hcA (by rw [HL.out]; omega) (fun b hb => by rw [HP.out b hb]; omega) hBk0 hlow) belowK_t (belowK_b (by omega)) (Below.refl _ _) (fun _ => rfl)
    (fun pre W => (Boxed W (w.heap.size + 1) 94 (.slice (some ⟨w.heap.size, 0, none⟩) 4 4) ∧ Row W (some ⟨w.heap.size, 0, none⟩) (spv (spOf (pre.map Subtype.val)))) ∧ Below w.heap.size w W)
    (fun _ _ _ => False)
    (OwnFrom.and (OwnFrom.and (Own.from (boxed_own _ _ (fun _ => _)) _) (fun pre X Y row h hg hr => row_own _ _ _ () X Y row h hg hr)) (ownFrom_below (Nat.le_refl _) (by omega)))
    (fun _ _ _ _ _ hs _ _ => hs)
    ⟨⟨bV, hR0⟩, hB0⟩
    (fun x a' W => ∃ B4 B5, w.heap.size + 1 < B4 ∧ w.heap.size + 1 < B5 ∧ Laid W B4 103 #[.int .i64 (x.1.1 : Int), .int .i64 (x.1.2.1 : Int)] ∧ Laid W B5 71 (pgv x.1.2.2) ∧ a' = { tmps := #[.slice (some ⟨g, o, none⟩) 4 c, undef, .slice none 0 0, .pointer (some ⟨w.heap.size + 1, 0, none⟩), .pointer (some ⟨B4, 0, none⟩), .pointer (some ⟨B5, 0, none⟩), undef, .slice (some ⟨g, o, none⟩) 4 c, .int .i64 4, .slice (some ⟨w.heap.size, 0, none⟩) 4 4, .slice (some ⟨g, o, none⟩) 4 c, .func (.func 81) #[] #[.pointer (some ⟨w.heap.size + 1 + 1, 0, none⟩)], .agg #[.int .i64 (x.1.1 : Int), .int .i64 (x.1.2.1 : Int)], .agg (pgv x.1.2.2), undef, undef, undef, undef, undef, undef, undef, undef, undef, undef, undef, undef, undef, undef, undef, undef, undef, undef, undef, undef, undef, undef, undef, undef, undef, undef, undef, undef, undef, undef, undef, undef, undef, undef, undef, undef, undef, undef, undef, undef], defers := [] })
    (fun x a' _ X Y row hs hg hr => by obtain ⟨B4, B5, h1, h2, h3, h4, h5⟩ := hs; exact ⟨B4, B5, h1, h2, laid_own B4 _ _ _ () X Y row h3 hg hr, laid_own B5 _ _ _ () X Y row h4 hg hr, h5⟩)
    ?assign ?body ?done ?stop
  case assign =>
    rintro l pre x W K ⟨⟨bV1, hR1⟩, hB1⟩ hK
    dsimp only [encP]
    gi_wp2
    have hlt := bV1.lt
    exact hK _ _ (((KeepsOthers.alloc _ _).trans (KeepsOthers.alloc _ _)).from _) (((Below.refl _ W).alloc hB1.size _).alloc (by simp; omega) _) ⟨⟨(bV1.alloc _).alloc _, (hR1.alloc _).alloc _⟩, (hB1.alloc hB1.size _).alloc (by simp; omega) _⟩ ⟨W.heap.size, W.heap.size + 1, hlt, by omega, (Below.heap_alloc _ _ _ (by simp)).trans (World.alloc_heap_new W _), by have := World.alloc_heap_new (W.alloc (.cells #[.int .i64 (x.1.1 : Int), .int .i64 (x.1.2.1 : Int)] 103)) (.cells (pgv x.1.2.2) 71); rwa [World.size_alloc] at this, rfl⟩
  case body =>
    rintro l pre x a' W hl ⟨r, hr⟩ ⟨⟨bV1, hR1⟩, hB1⟩ ⟨B4, B5, h4, h5, L4, L5, rfl⟩ hlt
    have hx4 : x.1.1 < 4 := Nat.lt_of_lt_of_eq x.2 HL.out
    have hlen := spOf_len (pre.map Subtype.val)
    have hst : Hid (spOf ((pre ++ [x]).map Subtype.val) = spStep (spOf (pre.map Subtype.val)) x.1) := by rw [Hid, List.map_append]; exact spOf_snoc _ _
    generalize spOf (pre.map Subtype.val) = ss at *
    obtain ⟨sp, hsp⟩ := get_some (l := ss) (k := x.1.1) (by omega)
    have hgd : ss.getD x.1.1 (0, 0) = sp := by rw [List.getD_eq_getElem?_getD, hsp]; rfl
    obtain ⟨l0, l1, l2, l3⟩ := hR1.span hsp
    have cV := bV1.cell
    have x0 : W.cell? ⟨B5, 0, none⟩ = some (.int .i64 x.1.2.2.state) := L5.cell 0 rfl
    have x2 : W.cell? ⟨B5, 2, none⟩ = some (.int .i64 x.1.2.2.rc.seq) := L5.cell 2 rfl
    have s0 : W.cell? ⟨B4, 0, none⟩ = some (.int .i64 (x.1.1 : Int)) := L4.cell 0 rfl
    have hx4' : (x.1.1 : Int) < 4 := by omega
    by_cases h1 : x.1.2.2.state = 1
    · have hst2 : Hid (spOf ((pre ++ [x]).map Subtype.val) = ss.set x.1.1 (lowOf sp x.1.2.2.rc.seq, max sp.2 x.1.2.2.rc.seq)) := by rw [Hid, hst.out]; unfold spStep; rw [if_pos h1, hgd]
      have hrow : ∀ Wf : World, Wrote W Wf w.heap.size (x.1.1 * 2) (Spn (lowOf sp x.1.2.2.rc.seq, max sp.2 x.1.2.2.rc.seq)) → Row Wf (some ⟨w.heap.size, 0, none⟩) (spv (spOf ((pre ++ [x]).map Subtype.val))) := fun Wf hW => by
        rw [hst2.out, spv_set _ _ _ (by omega)]
        exact Wrote.row (o := 0) (by rw [Nat.zero_add]; exact hW) hR1 (by rw [spv_len]; simp [Spn]; omega)
      have HROW := Lib.hid hrow
      rw [h1] at x0
      clear hrow hst hst2 hgd hsp h1
      by_cases hz : sp.1 = 0
      · have hlo : Hid (lowOf sp x.1.2.2.rc.seq = x.1.2.2.rc.seq) := by unfold Hid lowOf; rw [if_pos (.inl hz)]
        rw [hz] at l0
        clear hz
        gi_wp2
        refine region_round_held (S := fun w' => w'.cell? ⟨w.heap.size, x.1.1 * 2, none⟩ = some (.int .i64 0) ∧ w'.cell? ⟨B5, 2, none⟩ = some (.int .i64 x.1.2.2.rc.seq)) (by kernel_rfl) (by kernel_rfl) ⟨l0, x2⟩ (fun hHeld => ?_)
        refine wpAnyH_take (i := 0) (v := ?va10) rfl (by kernel_rfl) (by kernel_rfl) (by kernel_rfl) (fun _ _ _ h => h) (Or.inl ⟨by rfl, ?ya10⟩) hHeld ?ra10
        case ya10 => (intro w' hS; (try dsimp only at hS); obtain ⟨s0, s1⟩ := hS; (try go_simp); (try with_reducible rfl))
        try simp only [Act.put, List.getElem_toArray, List.getElem_cons_zero, List.getElem_cons_succ, List.setIfInBounds_toArray, List.set_cons_zero, List.set_cons_succ]
        refine wpAnyH_take (i := 1) (v := ?va11) rfl (by kernel_rfl) (by kernel_rfl) (by kernel_rfl) (fun _ _ _ h => h) (Or.inl ⟨by rfl, ?ya11⟩) hHeld ?ra11
        case ya11 => (intro w' hS; (try dsimp only at hS); obtain ⟨s0, s1⟩ := hS; (try go_simp); (try with_reducible rfl))
        try simp only [Act.put, List.getElem_toArray, List.getElem_cons_zero, List.getElem_cons_succ, List.setIfInBounds_toArray, List.set_cons_zero, List.set_cons_succ]
        refine wpAnyH_take (i := 2) (v := ?va12) rfl (by kernel_rfl) (by kernel_rfl) (by kernel_rfl) (fun _ _ _ h => h) (Or.inl ⟨by rfl, ?ya12⟩) hHeld ?ra12
        case ya12 => (intro w' hS; (try dsimp only at hS); obtain ⟨s0, s1⟩ := hS; (try go_simp); (try with_reducible rfl))
        try simp only [Act.put, List.getElem_toArray, List.getElem_cons_zero, List.getElem_cons_succ, List.setIfInBounds_toArray, List.set_cons_zero, List.set_cons_succ]
        refine wpAnyH_take (i := 3) (v := ?va13) rfl (by kernel_rfl) (by kernel_rfl) (by kernel_rfl) (fun _ _ _ h => h) (Or.inl ⟨by rfl, ?ya13⟩) hHeld ?ra13
        case ya13 => (intro w' hS; (try dsimp only at hS); obtain ⟨s0, s1⟩ := hS; (try go_simp); (try with_reducible rfl))
        try simp only [Act.put, List.getElem_toArray, List.getElem_cons_zero, List.getElem_cons_succ, List.setIfInBounds_toArray, List.set_cons_zero, List.set_cons_succ]
        refine wpAnyH_take (i := 4) (v := ?va14) rfl (by kernel_rfl) (by kernel_rfl) (by kernel_rfl) (fun _ _ _ h => h) (Or.inl ⟨by rfl, ?ya14⟩) hHeld ?ra14
        case ya14 => (intro w' hS; (try dsimp only at hS); obtain ⟨s0, s1⟩ := hS; (try go_simp); (try with_reducible rfl))
        try simp only [Act.put, List.getElem_toArray, List.getElem_cons_zero, List.getElem_cons_succ, List.setIfInBounds_toArray, List.set_cons_zero, List.set_cons_succ]
        refine wpAnyH_take (i := 5) (v := ?va15) rfl (by kernel_rfl) (by kernel_rfl) (by kernel_rfl) (fun _ _ _ h => h) (Or.inl ⟨by rfl, ?ya15⟩) hHeld ?ra15
        case ya15 => (intro w' hS; (try dsimp only at hS); obtain ⟨s0, s1⟩ := hS; (try go_simp); (try with_reducible rfl))
        try simp only [Act.put, List.getElem_toArray, List.getElem_cons_zero, List.getElem_cons_succ, List.setIfInBounds_toArray, List.set_cons_zero, List.set_cons_succ]
        refine wpAnyH_take (i := 6) (v := undef) rfl (by kernel_rfl) (by kernel_rfl) (by kernel_rfl) (fun _ _ _ h => h) (Or.inr ⟨by rfl, rfl⟩) hHeld ?_
        try simp only [Act.put, List.getElem_toArray, List.getElem_cons_zero, List.getElem_cons_succ, List.setIfInBounds_toArray, List.set_cons_zero, List.set_cons_succ]
        refine wpAnyH_take (i := 7) (v := undef) rfl (by kernel_rfl) (by kernel_rfl) (by kernel_rfl) (fun _ _ _ h => h) (Or.inr ⟨by rfl, rfl⟩) hHeld ?_
        try simp only [Act.put, List.getElem_toArray, List.getElem_cons_zero, List.getElem_cons_succ, List.setIfInBounds_toArray, List.set_cons_zero, List.set_cons_succ]
        refine wpAnyH_take (i := 8) (v := undef) rfl (by kernel_rfl) (by kernel_rfl) (by kernel_rfl) (fun _ _ _ h => h) (Or.inr ⟨by rfl, rfl⟩) hHeld ?_
        try simp only [Act.put, List.getElem_toArray, List.getElem_cons_zero, List.getElem_cons_succ, List.setIfInBounds_toArray, List.set_cons_zero, List.set_cons_succ]
        refine wpAnyH_take (i := 9) (v := undef) rfl (by kernel_rfl) (by kernel_rfl) (by kernel_rfl) (fun _ _ _ h => h) (Or.inr ⟨by rfl, rfl⟩) hHeld ?_
        try simp only [Act.put, List.getElem_toArray, List.getElem_cons_zero, List.getElem_cons_succ, List.setIfInBounds_toArray, List.set_cons_zero, List.set_cons_succ]
        refine wpAnyH_take (i := 10) (v := undef) rfl (by kernel_rfl) (by kernel_rfl) (by kernel_rfl) (fun _ _ _ h => h) (Or.inr ⟨by rfl, rfl⟩) hHeld ?_
        try simp only [Act.put, List.getElem_toArray, List.getElem_cons_zero, List.getElem_cons_succ, List.setIfInBounds_toArray, List.set_cons_zero, List.set_cons_succ]
        refine wpAnyH_take (i := 11) (v := undef) rfl (by kernel_rfl) (by kernel_rfl) (by kernel_rfl) (fun _ _ _ h => h) (Or.inr ⟨by rfl, rfl⟩) hHeld ?_
        try simp only [Act.put, List.getElem_toArray, List.getElem_cons_zero, List.getElem_cons_succ, List.setIfInBounds_toArray, List.set_cons_zero, List.set_cons_succ]
        refine wpAnyH_take (i := 12) (v := undef) rfl (by kernel_rfl) (by kernel_rfl) (by kernel_rfl) (fun _ _ _ h => h) (Or.inr ⟨by rfl, rfl⟩) hHeld ?_
        try simp only [Act.put, List.getElem_toArray, List.getElem_cons_zero, List.getElem_cons_succ, List.setIfInBounds_toArray, List.set_cons_zero, List.set_cons_succ]
        refine wpAnyH_take (i := 13) (v := undef) rfl (by kernel_rfl) (by kernel_rfl) (by kernel_rfl) (fun _ _ _ h => h) (Or.inr ⟨by rfl, rfl⟩) hHeld ?_
        try simp only [Act.put, List.getElem_toArray, List.getElem_cons_zero, List.getElem_cons_succ, List.setIfInBounds_toArray, List.set_cons_zero, List.set_cons_succ]
        refine wpAnyH_take (i := 14) (v := ?va114) rfl (by kernel_rfl) (by kernel_rfl) (by kernel_rfl) (fun _ _ _ h => h) (Or.inl ⟨by rfl, ?ya114⟩) hHeld ?ra114
        case ya114 => (intro w' hS; (try dsimp only at hS); obtain ⟨s0, s1⟩ := hS; (try go_simp); (try with_reducible rfl))
        try simp only [Act.put, List.getElem_toArray, List.getElem_cons_zero, List.getElem_cons_succ, List.setIfInBounds_toArray, List.set_cons_zero, List.set_cons_succ]
        refine wpAnyH_done (by kernel_rfl) ?_ _
        simp only [OnlyNormal]
        gi_wp2
        by_cases hmx : sp.2 < x.1.2.2.rc.seq
        · have hmv : Hid (max sp.2 x.1.2.2.rc.seq = x.1.2.2.rc.seq) := by unfold Hid; omega
          refine region_round (by kernel_rfl) (by kernel_rfl) ?_
          refine wpAny_take (i := 0) (v := ?vb20) rfl (by kernel_rfl) (by kernel_rfl) (by kernel_rfl) (fun _ _ _ h => h) (Or.inl ⟨by rfl, ?yb20⟩) ?rb20
          case yb20 => (intro w'; (try go_simp); (try with_reducible rfl))
          try simp only [Act.put, List.getElem_toArray, List.getElem_cons_zero, List.getElem_cons_succ, List.setIfInBounds_toArray, List.set_cons_zero, List.set_cons_succ]
          refine wpAny_take (i := 1) (v := ?vb21) rfl (by kernel_rfl) (by kernel_rfl) (by kernel_rfl) (fun _ _ _ h => h) (Or.inl ⟨by rfl, ?yb21⟩) ?rb21
          case yb21 => (intro w'; (try go_simp); (try with_reducible rfl))
          try simp only [Act.put, List.getElem_toArray, List.getElem_cons_zero, List.getElem_cons_succ, List.setIfInBounds_toArray, List.set_cons_zero, List.set_cons_succ]
          refine wpAny_take (i := 2) (v := ?vb22) rfl (by kernel_rfl) (by kernel_rfl) (by kernel_rfl) (fun _ _ _ h => h) (Or.inl ⟨by rfl, ?yb22⟩) ?rb22
          case yb22 => (intro w'; (try go_simp); (try with_reducible rfl))
          try simp only [Act.put, List.getElem_toArray, List.getElem_cons_zero, List.getElem_cons_succ, List.setIfInBounds_toArray, List.set_cons_zero, List.set_cons_succ]
          refine wpAny_take (i := 3) (v := ?vb23) rfl (by kernel_rfl) (by kernel_rfl) (by kernel_rfl) (fun _ _ _ h => h) (Or.inl ⟨by rfl, ?yb23⟩) ?rb23
          case yb23 => (intro w'; (try go_simp); (try with_reducible rfl))
          try simp only [Act.put, List.getElem_toArray, List.getElem_cons_zero, List.getElem_cons_succ, List.setIfInBounds_toArray, List.set_cons_zero, List.set_cons_succ]
          refine wpAny_take (i := 5) (v := ?vb25) rfl (by kernel_rfl) (by kernel_rfl) (by kernel_rfl) (fun _ _ _ h => h) (Or.inl ⟨by rfl, ?yb25⟩) ?rb25
          case yb25 => (intro w'; (try go_simp); (try with_reducible rfl))
          try simp only [Act.put, List.getElem_toArray, List.getElem_cons_zero, List.getElem_cons_succ, List.setIfInBounds_toArray, List.set_cons_zero, List.set_cons_succ]
          refine wpAny_take (i := 6) (v := ?vb26) rfl (by kernel_rfl) (by kernel_rfl) (by kernel_rfl) (fun _ _ _ h => h) (Or.inl ⟨by rfl, ?yb26⟩) ?rb26
          case yb26 => (intro w'; (try go_simp); (try with_reducible rfl))
          try simp only [Act.put, List.getElem_toArray, List.getElem_cons_zero, List.getElem_cons_succ, List.setIfInBounds_toArray, List.set_cons_zero, List.set_cons_succ]
          refine wpAny_ready (rs := [4, 7]) (by kernel_rfl) (by simp) ?_
          refine AllReady.cons rfl (fun K hK => ?_) (AllReady.cons rfl (fun K hK => ?_) AllReady.nil)
          · go_simp
            refine hK _ _ ?_
            clear hK K
            try simp only [Act.put, List.getElem_toArray, List.getElem_cons_zero, List.getElem_cons_succ, List.setIfInBounds_toArray, List.set_cons_zero, List.set_cons_succ]
            refine wpAny_ready (rs := [7]) (by kernel_rfl) (by simp) ?_
            refine AllReady.cons rfl (fun K hK => ?_) AllReady.nil
            go_simp
            refine hK _ _ ?_
            clear hK K
            try simp only [Act.put, List.getElem_toArray, List.getElem_cons_zero, List.getElem_cons_succ, List.setIfInBounds_toArray, List.set_cons_zero, List.set_cons_succ]
            refine wpAny_take (i := 8) (v := ?vb28x4) rfl (by kernel_rfl) (by kernel_rfl) (by kernel_rfl) (fun _ _ _ h => h) (Or.inl ⟨by rfl, ?yb28x4⟩) ?rb28x4
            case yb28x4 => (intro w'; (try go_simp); (try with_reducible rfl))
            try simp only [Act.put, List.getElem_toArray, List.getElem_cons_zero, List.getElem_cons_succ, List.setIfInBounds_toArray, List.set_cons_zero, List.set_cons_succ]
            refine wpAny_take (i := 9) (v := ?vb29x4) rfl (by kernel_rfl) (by kernel_rfl) (by kernel_rfl) (fun _ _ _ h => h) (Or.inl ⟨by rfl, ?yb29x4⟩) ?rb29x4
            case yb29x4 => (intro w'; (try go_simp); (try with_reducible rfl))
            try simp only [Act.put, List.getElem_toArray, List.getElem_cons_zero, List.getElem_cons_succ, List.setIfInBounds_toArray, List.set_cons_zero, List.set_cons_succ]
            refine wpAny_take (i := 10) (v := ?vb210x4) rfl (by kernel_rfl) (by kernel_rfl) (by kernel_rfl) (fun _ _ _ h => h) (Or.inl ⟨by rfl, ?yb210x4⟩) ?rb210x4
            case yb210x4 => (intro w'; (try go_simp); (try with_reducible rfl))
            try simp only [Act.put, List.getElem_toArray, List.getElem_cons_zero, List.getElem_cons_succ, List.setIfInBounds_toArray, List.set_cons_zero, List.set_cons_succ]
            refine wpAny_ready (rs := [11]) (by kernel_rfl) (by simp) ?_
            refine AllReady.cons rfl (fun K hK => ?_) AllReady.nil
            go_simp
            refine hK _ _ ?_
            clear hK K
            try simp only [Act.put, List.getElem_toArray, List.getElem_cons_zero, List.getElem_cons_succ, List.setIfInBounds_toArray, List.set_cons_zero, List.set_cons_succ]
            refine wpAny_done (by kernel_rfl) ?_ _
            simp only [OnlyNormal]
            have hW : Wrote W ((W.setCell ⟨w.heap.size, x.1.1 * 2, none⟩ (.int .i64 x.1.2.2.rc.seq)).setCell ⟨w.heap.size, x.1.1 * 2 + 1, none⟩ (.int .i64 x.1.2.2.rc.seq)) w.heap.size (x.1.1 * 2) (Spn (lowOf sp x.1.2.2.rc.seq, max sp.2 x.1.2.2.rc.seq)) := by
              rw [hlo.out, hmv.out]
              exact wrote_setRow w.heap.size [.int .i64 x.1.2.2.rc.seq, .int .i64 x.1.2.2.rc.seq] (x.1.1 * 2) W (fun j hj => by
                match j, hj with
                | 0, _ => exact ⟨_, l0⟩
                | 1, _ => exact ⟨_, l1⟩)
            have hBL : Below w.heap.size W ((W.setCell ⟨w.heap.size, x.1.1 * 2, none⟩ (.int .i64 x.1.2.2.rc.seq)).setCell ⟨w.heap.size, x.1.1 * 2 + 1, none⟩ (.int .i64 x.1.2.2.rc.seq)).drew.drew := ((((Below.refl w.heap.size W).setCell (p := ⟨w.heap.size, x.1.1 * 2, none⟩) (Nat.le_refl _) (.int .i64 x.1.2.2.rc.seq)).setCell (p := ⟨w.heap.size, x.1.1 * 2 + 1, none⟩) (Nat.le_refl _) (.int .i64 x.1.2.2.rc.seq)).drew).drew
            have hBX : Boxed ((W.setCell ⟨w.heap.size, x.1.1 * 2, none⟩ (.int .i64 x.1.2.2.rc.seq)).setCell ⟨w.heap.size, x.1.1 * 2 + 1, none⟩ (.int .i64 x.1.2.2.rc.seq)).drew.drew (w.heap.size + 1) 94 (.slice (some ⟨w.heap.size, 0, none⟩) 4 4) := (hW.block (w.heap.size + 1) (by omega)).trans bV1
            have hRW : Row ((W.setCell ⟨w.heap.size, x.1.1 * 2, none⟩ (.int .i64 x.1.2.2.rc.seq)).setCell ⟨w.heap.size, x.1.1 * 2 + 1, none⟩ (.int .i64 x.1.2.2.rc.seq)).drew.drew (some ⟨w.heap.size, 0, none⟩) (spv (spOf ((pre ++ [x]).map Subtype.val))) := (HROW.out _ hW).drew.drew
            clear hW HROW
            gi_wp2
            exact ⟨((((KeepsOthers.setCell _ _ _).trans (KeepsOthers.setCell _ _ _)).trans (KeepsOthers.drew _)).trans (KeepsOthers.drew _)).from _, hBL, ⟨hBX, hRW⟩, hB1.trans hBL⟩
          · go_simp
            refine hK _ _ ?_
            clear hK K
            try simp only [Act.put, List.getElem_toArray, List.getElem_cons_zero, List.getElem_cons_succ, List.setIfInBounds_toArray, List.set_cons_zero, List.set_cons_succ]
            refine wpAny_ready (rs := [4]) (by kernel_rfl) (by simp) ?_
            refine AllReady.cons rfl (fun K hK => ?_) AllReady.nil
            go_simp
            refine hK _ _ ?_
            clear hK K
            try simp only [Act.put, List.getElem_toArray, List.getElem_cons_zero, List.getElem_cons_succ, List.setIfInBounds_toArray, List.set_cons_zero, List.set_cons_succ]
            refine wpAny_take (i := 8) (v := ?vb28x7) rfl (by kernel_rfl) (by kernel_rfl) (by kernel_rfl) (fun _ _ _ h => h) (Or.inl ⟨by rfl, ?yb28x7⟩) ?rb28x7
            case yb28x7 => (intro w'; (try go_simp); (try with_reducible rfl))
            try simp only [Act.put, List.getElem_toArray, List.getElem_cons_zero, List.getElem_cons_succ, List.setIfInBounds_toArray, List.set_cons_zero, List.set_cons_succ]
            refine wpAny_take (i := 9) (v := ?vb29x7) rfl (by kernel_rfl) (by kernel_rfl) (by kernel_rfl) (fun _ _ _ h => h) (Or.inl ⟨by rfl, ?yb29x7⟩) ?rb29x7
            case yb29x7 => (intro w'; (try go_simp); (try with_reducible rfl))
            try simp only [Act.put, List.getElem_toArray, List.getElem_cons_zero, List.getElem_cons_succ, List.setIfInBounds_toArray, List.set_cons_zero, List.set_cons_succ]
            refine wpAny_take (i := 10) (v := ?vb210x7) rfl (by kernel_rfl) (by kernel_rfl) (by kernel_rfl) (fun _ _ _ h => h) (Or.inl ⟨by rfl, ?yb210x7⟩) ?rb210x7
            case yb210x7 => (intro w'; (try go_simp); (try with_reducible rfl))
            try simp only [Act.put, List.getElem_toArray, List.getElem_cons_zero, List.getElem_cons_succ, List.setIfInBounds_toArray, List.set_cons_zero, List.set_cons_succ]
            refine wpAny_ready (rs := [11]) (by kernel_rfl) (by simp) ?_
            refine AllReady.cons rfl (fun K hK => ?_) AllReady.nil
            go_simp
            refine hK _ _ ?_
            clear hK K
            try simp only [Act.put, List.getElem_toArray, List.getElem_cons_zero, List.getElem_cons_succ, List.setIfInBounds_toArray, List.set_cons_zero, List.set_cons_succ]
            refine wpAny_done (by kernel_rfl) ?_ _
            simp only [OnlyNormal]
            have hW : Wrote W ((W.setCell ⟨w.heap.size, x.1.1 * 2, none⟩ (.int .i64 x.1.2.2.rc.seq)).setCell ⟨w.heap.size, x.1.1 * 2 + 1, none⟩ (.int .i64 x.1.2.2.rc.seq)) w.heap.size (x.1.1 * 2) (Spn (lowOf sp x.1.2.2.rc.seq, max sp.2 x.1.2.2.rc.seq)) := by
              rw [hlo.out, hmv.out]
              exact wrote_setRow w.heap.size [.int .i64 x.1.2.2.rc.seq, .int .i64 x.1.2.2.rc.seq] (x.1.1 * 2) W (fun j hj => by
                match j, hj with
                | 0, _ => exact ⟨_, l0⟩
                | 1, _ => exact ⟨_, l1⟩)
            have hBL : Below w.heap.size W ((W.setCell ⟨w.heap.size, x.1.1 * 2, none⟩ (.int .i64 x.1.2.2.rc.seq)).setCell ⟨w.heap.size, x.1.1 * 2 + 1, none⟩ (.int .i64 x.1.2.2.rc.seq)).drew.drew := ((((Below.refl w.heap.size W).setCell (p := ⟨w.heap.size, x.1.1 * 2, none⟩) (Nat.le_refl _) (.int .i64 x.1.2.2.rc.seq)).setCell (p := ⟨w.heap.size, x.1.1 * 2 + 1, none⟩) (Nat.le_refl _) (.int .i64 x.1.2.2.rc.seq)).drew).drew
            have hBX : Boxed ((W.setCell ⟨w.heap.size, x.1.1 * 2, none⟩ (.int .i64 x.1.2.2.rc.seq)).setCell ⟨w.heap.size, x.1.1 * 2 + 1, none⟩ (.int .i64 x.1.2.2.rc.seq)).drew.drew (w.heap.size + 1) 94 (.slice (some ⟨w.heap.size, 0, none⟩) 4 4) := (hW.block (w.heap.size + 1) (by omega)).trans bV1
            have hRW : Row ((W.setCell ⟨w.heap.size, x.1.1 * 2, none⟩ (.int .i64 x.1.2.2.rc.seq)).setCell ⟨w.heap.size, x.1.1 * 2 + 1, none⟩ (.int .i64 x.1.2.2.rc.seq)).drew.drew (some ⟨w.heap.size, 0, none⟩) (spv (spOf ((pre ++ [x]).map Subtype.val))) := (HROW.out _ hW).drew.drew
            clear hW HROW
            gi_wp2
            exact ⟨((((KeepsOthers.setCell _ _ _).trans (KeepsOthers.setCell _ _ _)).trans (KeepsOthers.drew _)).trans (KeepsOthers.drew _)).from _, hBL, ⟨hBX, hRW⟩, hB1.trans hBL⟩
        · have hmv : Hid (max sp.2 x.1.2.2.rc.seq = sp.2) := by unfold Hid; omega
          refine region_round (by kernel_rfl) (by kernel_rfl) ?_
          refine wpAny_take (i := 0) (v := ?vb30) rfl (by kernel_rfl) (by kernel_rfl) (by kernel_rfl) (fun _ _ _ h => h) (Or.inl ⟨by rfl, ?yb30⟩) ?rb30
          case yb30 => (intro w'; (try go_simp); (try with_reducible rfl))
          try simp only [Act.put, List.getElem_toArray, List.getElem_cons_zero, List.getElem_cons_succ, List.setIfInBounds_toArray, List.set_cons_zero, List.set_cons_succ]
          refine wpAny_take (i := 1) (v := ?vb31) rfl (by kernel_rfl) (by kernel_rfl) (by kernel_rfl) (fun _ _ _ h => h) (Or.inl ⟨by rfl, ?yb31⟩) ?rb31
          case yb31 => (intro w'; (try go_simp); (try with_reducible rfl))
          try simp only [Act.put, List.getElem_toArray, List.getElem_cons_zero, List.getElem_cons_succ, List.setIfInBounds_toArray, List.set_cons_zero, List.set_cons_succ]
          refine wpAny_take (i := 2) (v := ?vb32) rfl (by kernel_rfl) (by kernel_rfl) (by kernel_rfl) (fun _ _ _ h => h) (Or.inl ⟨by rfl, ?yb32⟩) ?rb32
          case yb32 => (intro w'; (try go_simp); (try with_reducible rfl))
          try simp only [Act.put, List.getElem_toArray, List.getElem_cons_zero, List.getElem_cons_succ, List.setIfInBounds_toArray, List.set_cons_zero, List.set_cons_succ]
          refine wpAny_take (i := 3) (v := ?vb33) rfl (by kernel_rfl) (by kernel_rfl) (by kernel_rfl) (fun _ _ _ h => h) (Or.inl ⟨by rfl, ?yb33⟩) ?rb33
          case yb33 => (intro w'; (try go_simp); (try with_reducible rfl))
          try simp only [Act.put, List.getElem_toArray, List.getElem_cons_zero, List.getElem_cons_succ, List.setIfInBounds_toArray, List.set_cons_zero, List.set_cons_succ]
          refine wpAny_take (i := 5) (v := ?vb35) rfl (by kernel_rfl) (by kernel_rfl) (by kernel_rfl) (fun _ _ _ h => h) (Or.inl ⟨by rfl, ?yb35⟩) ?rb35
          case yb35 => (intro w'; (try go_simp); (try with_reducible rfl))
          try simp only [Act.put, List.getElem_toArray, List.getElem_cons_zero, List.getElem_cons_succ, List.setIfInBounds_toArray, List.set_cons_zero, List.set_cons_succ]
          refine wpAny_take (i := 6) (v := ?vb36) rfl (by kernel_rfl) (by kernel_rfl) (by kernel_rfl) (fun _ _ _ h => h) (Or.inl ⟨by rfl, ?yb36⟩) ?rb36
          case yb36 => (intro w'; (try go_simp); (try with_reducible rfl))
          try simp only [Act.put, List.getElem_toArray, List.getElem_cons_zero, List.getElem_cons_succ, List.setIfInBounds_toArray, List.set_cons_zero, List.set_cons_succ]
          refine wpAny_ready (rs := [4, 7]) (by kernel_rfl) (by simp) ?_
          refine AllReady.cons rfl (fun K hK => ?_) (AllReady.cons rfl (fun K hK => ?_) AllReady.nil)
          · go_simp
            refine hK _ _ ?_
            clear hK K
            try simp only [Act.put, List.getElem_toArray, List.getElem_cons_zero, List.getElem_cons_succ, List.setIfInBounds_toArray, List.set_cons_zero, List.set_cons_succ]
            refine wpAny_ready (rs := [7]) (by kernel_rfl) (by simp) ?_
            refine AllReady.cons rfl (fun K hK => ?_) AllReady.nil
            go_simp
            refine hK _ _ ?_
            clear hK K
            try simp only [Act.put, List.getElem_toArray, List.getElem_cons_zero, List.getElem_cons_succ, List.setIfInBounds_toArray, List.set_cons_zero, List.set_cons_succ]
            refine wpAny_take (i := 8) (v := ?vb38x4) rfl (by kernel_rfl) (by kernel_rfl) (by kernel_rfl) (fun _ _ _ h => h) (Or.inl ⟨by rfl, ?yb38x4⟩) ?rb38x4
            case yb38x4 => (intro w'; (try go_simp); (try with_reducible rfl))
            try simp only [Act.put, List.getElem_toArray, List.getElem_cons_zero, List.getElem_cons_succ, List.setIfInBounds_toArray, List.set_cons_zero, List.set_cons_succ]
            refine wpAny_take (i := 9) (v := ?vb39x4) rfl (by kernel_rfl) (by kernel_rfl) (by kernel_rfl) (fun _ _ _ h => h) (Or.inl ⟨by rfl, ?yb39x4⟩) ?rb39x4
            case yb39x4 => (intro w'; (try go_simp); (try with_reducible rfl))
            try simp only [Act.put, List.getElem_toArray, List.getElem_cons_zero, List.getElem_cons_succ, List.setIfInBounds_toArray, List.set_cons_zero, List.set_cons_succ]
            refine wpAny_take (i := 10) (v := ?vb310x4) rfl (by kernel_rfl) (by kernel_rfl) (by kernel_rfl) (fun _ _ _ h => h) (Or.inl ⟨by rfl, ?yb310x4⟩) ?rb310x4
            case yb310x4 => (intro w'; (try go_simp); (try with_reducible rfl))
            try simp only [Act.put, List.getElem_toArray, List.getElem_cons_zero, List.getElem_cons_succ, List.setIfInBounds_toArray, List.set_cons_zero, List.set_cons_succ]
            refine wpAny_ready (rs := [11]) (by kernel_rfl) (by simp) ?_
            refine AllReady.cons rfl (fun K hK => ?_) AllReady.nil
            go_simp
            refine hK _ _ ?_
            clear hK K
            try simp only [Act.put, List.getElem_toArray, List.getElem_cons_zero, List.getElem_cons_succ, List.setIfInBounds_toArray, List.set_cons_zero, List.set_cons_succ]
            refine wpAny_done (by kernel_rfl) ?_ _
            simp only [OnlyNormal]
            have hW : Wrote W ((W.setCell ⟨w.heap.size, x.1.1 * 2, none⟩ (.int .i64 x.1.2.2.rc.seq)).setCell ⟨w.heap.size, x.1.1 * 2 + 1, none⟩ (.int .i64 sp.2)) w.heap.size (x.1.1 * 2) (Spn (lowOf sp x.1.2.2.rc.seq, max sp.2 x.1.2.2.rc.seq)) := by
              rw [hlo.out, hmv.out]
              exact wrote_setRow w.heap.size [.int .i64 x.1.2.2.rc.seq, .int .i64 sp.2] (x.1.1 * 2) W (fun j hj => by
                match j, hj with
                | 0, _ => exact ⟨_, l0⟩
                | 1, _ => exact ⟨_, l1⟩)
            have hBL : Below w.heap.size W ((W.setCell ⟨w.heap.size, x.1.1 * 2, none⟩ (.int .i64 x.1.2.2.rc.seq)).setCell ⟨w.heap.size, x.1.1 * 2 + 1, none⟩ (.int .i64 sp.2)).drew.drew := ((((Below.refl w.heap.size W).setCell (p := ⟨w.heap.size, x.1.1 * 2, none⟩) (Nat.le_refl _) (.int .i64 x.1.2.2.rc.seq)).setCell (p := ⟨w.heap.size, x.1.1 * 2 + 1, none⟩) (Nat.le_refl _) (.int .i64 sp.2)).drew).drew
            have hBX : Boxed ((W.setCell ⟨w.heap.size, x.1.1 * 2, none⟩ (.int .i64 x.1.2.2.rc.seq)).setCell ⟨w.heap.size, x.1.1 * 2 + 1, none⟩ (.int .i64 sp.2)).drew.drew (w.heap.size + 1) 94 (.slice (some ⟨w.heap.size, 0, none⟩) 4 4) := (hW.block (w.heap.size + 1) (by omega)).trans bV1
            have hRW : Row ((W.setCell ⟨w.heap.size, x.1.1 * 2, none⟩ (.int .i64 x.1.2.2.rc.seq)).setCell ⟨w.heap.size, x.1.1 * 2 + 1, none⟩ (.int .i64 sp.2)).drew.drew (some ⟨w.heap.size, 0, none⟩) (spv (spOf ((pre ++ [x]).map Subtype.val))) := (HROW.out _ hW).drew.drew
            clear hW HROW
            gi_wp2
            exact ⟨((((KeepsOthers.setCell _ _ _).trans (KeepsOthers.setCell _ _ _)).trans (KeepsOthers.drew _)).trans (KeepsOthers.drew _)).from _, hBL, ⟨hBX, hRW⟩, hB1.trans hBL⟩
          · go_simp
            refine hK _ _ ?_
            clear hK K
            try simp only [Act.put, List.getElem_toArray, List.getElem_cons_zero, List.getElem_cons_succ, List.setIfInBounds_toArray, List.set_cons_zero, List.set_cons_succ]
            refine wpAny_ready (rs := [4]) (by kernel_rfl) (by simp) ?_
            refine AllReady.cons rfl (fun K hK => ?_) AllReady.nil
            go_simp
            refine hK _ _ ?_
            clear hK K
            try simp only [Act.put, List.getElem_toArray, List.getElem_cons_zero, List.getElem_cons_succ, List.setIfInBounds_toArray, List.set_cons_zero, List.set_cons_succ]
            refine wpAny_take (i := 8) (v := ?vb38x7) rfl (by kernel_rfl) (by kernel_rfl) (by kernel_rfl) (fun _ _ _ h => h) (Or.inl ⟨by rfl, ?yb38x7⟩) ?rb38x7
            case yb38x7 => (intro w'; (try go_simp); (try with_reducible rfl))
            try simp only [Act.put, List.getElem_toArray, List.getElem_cons_zero, List.getElem_cons_succ, List.setIfInBounds_toArray, List.set_cons_zero, List.set_cons_succ]
            refine wpAny_take (i := 9) (v := ?vb39x7) rfl (by kernel_rfl) (by kernel_rfl) (by kernel_rfl) (fun _ _ _ h => h) (Or.inl ⟨by rfl, ?yb39x7⟩) ?rb39x7
            case yb39x7 => (intro w'; (try go_simp); (try with_reducible rfl))
            try simp only [Act.put, List.getElem_toArray, List.getElem_cons_zero, List.getElem_cons_succ, List.setIfInBounds_toArray, List.set_cons_zero, List.set_cons_succ]
            refine wpAny_take (i := 10) (v := ?vb310x7) rfl (by kernel_rfl) (by kernel_rfl) (by kernel_rfl) (fun _ _ _ h => h) (Or.inl ⟨by rfl, ?yb310x7⟩) ?rb310x7
            case yb310x7 => (intro w'; (try go_simp); (try with_reducible rfl))
            try simp only [Act.put, List.getElem_toArray, List.getElem_cons_zero, List.getElem_cons_succ, List.setIfInBounds_toArray, List.set_cons_zero, List.set_cons_succ]
            refine wpAny_ready (rs := [11]) (by kernel_rfl) (by simp) ?_
            refine AllReady.cons rfl (fun K hK => ?_) AllReady.nil
            go_simp
            refine hK _ _ ?_
            clear hK K
            try simp only [Act.put, List.getElem_toArray, List.getElem_cons_zero, List.getElem_cons_succ, List.setIfInBounds_toArray, List.set_cons_zero, List.set_cons_succ]
            refine wpAny_done (by kernel_rfl) ?_ _
            simp only [OnlyNormal]
            have hW : Wrote W ((W.setCell ⟨w.heap.size, x.1.1 * 2, none⟩ (.int .i64 x.1.2.2.rc.seq)).setCell ⟨w.heap.size, x.1.1 * 2 + 1, none⟩ (.int .i64 sp.2)) w.heap.size (x.1.1 * 2) (Spn (lowOf sp x.1.2.2.rc.seq, max sp.2 x.1.2.2.rc.seq)) := by
              rw [hlo.out, hmv.out]
              exact wrote_setRow w.heap.size [.int .i64 x.1.2.2.rc.seq, .int .i64 sp.2] (x.1.1 * 2) W (fun j hj => by
                match j, hj with
                | 0, _ => exact ⟨_, l0⟩
                | 1, _ => exact ⟨_, l1⟩)
            have hBL : Below w.heap.size W ((W.setCell ⟨w.heap.size, x.1.1 * 2, none⟩ (.int .i64 x.1.2.2.rc.seq)).setCell ⟨w.heap.size, x.1.1 * 2 + 1, none⟩ (.int .i64 sp.2)).drew.drew := ((((Below.refl w.heap.size W).setCell (p := ⟨w.heap.size, x.1.1 * 2, none⟩) (Nat.le_refl _) (.int .i64 x.1.2.2.rc.seq)).setCell (p := ⟨w.heap.size, x.1.1 * 2 + 1, none⟩) (Nat.le_refl _) (.int .i64 sp.2)).drew).drew
            have hBX : Boxed ((W.setCell ⟨w.heap.size, x.1.1 * 2, none⟩ (.int .i64 x.1.2.2.rc.seq)).setCell ⟨w.heap.size, x.1.1 * 2 + 1, none⟩ (.int .i64 sp.2)).drew.drew (w.heap.size + 1) 94 (.slice (some ⟨w.heap.size, 0, none⟩) 4 4) := (hW.block (w.heap.size + 1) (by omega)).trans bV1
            have hRW : Row ((W.setCell ⟨w.heap.size, x.1.1 * 2, none⟩ (.int .i64 x.1.2.2.rc.seq)).setCell ⟨w.heap.size, x.1.1 * 2 + 1, none⟩ (.int .i64 sp.2)).drew.drew (some ⟨w.heap.size, 0, none⟩) (spv (spOf ((pre ++ [x]).map Subtype.val))) := (HROW.out _ hW).drew.drew
            clear hW HROW
            gi_wp2
            exact ⟨((((KeepsOthers.setCell _ _ _).trans (KeepsOthers.setCell _ _ _)).trans (KeepsOthers.drew _)).trans (KeepsOthers.drew _)).from _, hBL, ⟨hBX, hRW⟩, hB1.trans hBL⟩
      · have hz' : (sp.1 == 0) = false := by simpa using hz
        by_cases hq : x.1.2.2.rc.seq < sp.1
        · have hlo : Hid (lowOf sp x.1.2.2.rc.seq = x.1.2.2.rc.seq) := by unfold Hid lowOf; rw [if_pos (.inr hq)]
          gi_wp2
          refine region_round_held (S := fun w' => w'.cell? ⟨w.heap.size, x.1.1 * 2, none⟩ = some (.int .i64 sp.1) ∧ w'.cell? ⟨B5, 2, none⟩ = some (.int .i64 x.1.2.2.rc.seq)) (by kernel_rfl) (by kernel_rfl) ⟨l0, x2⟩ (fun hHeld => ?_)
          refine wpAnyH_take (i := 0) (v := ?va40) rfl (by kernel_rfl) (by kernel_rfl) (by kernel_rfl) (fun _ _ _ h => h) (Or.inl ⟨by rfl, ?ya40⟩) hHeld ?ra40
          case ya40 => (intro w' hS; (try dsimp only at hS); obtain ⟨s0, s1⟩ := hS; (try go_simp); (try with_reducible rfl))
          try simp only [Act.put, List.getElem_toArray, List.getElem_cons_zero, List.getElem_cons_succ, List.setIfInBounds_toArray, List.set_cons_zero, List.set_cons_succ]
          refine wpAnyH_take (i := 1) (v := ?va41) rfl (by kernel_rfl) (by kernel_rfl) (by kernel_rfl) (fun _ _ _ h => h) (Or.inl ⟨by rfl, ?ya41⟩) hHeld ?ra41
          case ya41 => (intro w' hS; (try dsimp only at hS); obtain ⟨s0, s1⟩ := hS; (try go_simp); (try with_reducible rfl))
          try simp only [Act.put, List.getElem_toArray, List.getElem_cons_zero, List.getElem_cons_succ, List.setIfInBounds_toArray, List.set_cons_zero, List.set_cons_succ]
          refine wpAnyH_take (i := 2) (v := ?va42) rfl (by kernel_rfl) (by kernel_rfl) (by kernel_rfl) (fun _ _ _ h => h) (Or.inl ⟨by rfl, ?ya42⟩) hHeld ?ra42
          case ya42 => (intro w' hS; (try dsimp only at hS); obtain ⟨s0, s1⟩ := hS; (try go_simp); (try with_reducible rfl))
          try simp only [Act.put, List.getElem_toArray, List.getElem_cons_zero, List.getElem_cons_succ, List.setIfInBounds_toArray, List.set_cons_zero, List.set_cons_succ]
          refine wpAnyH_take (i := 3) (v := ?va43) rfl (by kernel_rfl) (by kernel_rfl) (by kernel_rfl) (fun _ _ _ h => h) (Or.inl ⟨by rfl, ?ya43⟩) hHeld ?ra43
          case ya43 => (intro w' hS; (try dsimp only at hS); obtain ⟨s0, s1⟩ := hS; (try go_simp); (try with_reducible rfl))
          try simp only [Act.put, List.getElem_toArray, List.getElem_cons_zero, List.getElem_cons_succ, List.setIfInBounds_toArray, List.set_cons_zero, List.set_cons_succ]
          refine wpAnyH_take (i := 4) (v := ?va44) rfl (by kernel_rfl) (by kernel_rfl) (by kernel_rfl) (fun _ _ _ h => h) (Or.inl ⟨by rfl, ?ya44⟩) hHeld ?ra44
          case ya44 => (intro w' hS; (try dsimp only at hS); obtain ⟨s0, s1⟩ := hS; (try go_simp); (try with_reducible rfl))
          try simp only [Act.put, List.getElem_toArray, List.getElem_cons_zero, List.getElem_cons_succ, List.setIfInBounds_toArray, List.set_cons_zero, List.set_cons_succ]
          refine wpAnyH_take (i := 5) (v := ?va45) rfl (by kernel_rfl) (by kernel_rfl) (by kernel_rfl) (fun _ _ _ h => h) (Or.inl ⟨by rfl, ?ya45⟩) hHeld ?ra45
          case ya45 => (intro w' hS; (try dsimp only at hS); obtain ⟨s0, s1⟩ := hS; (try go_simp); (try with_reducible rfl))
          try simp only [Act.put, List.getElem_toArray, List.getElem_cons_zero, List.getElem_cons_succ, List.setIfInBounds_toArray, List.set_cons_zero, List.set_cons_succ]
          refine wpAnyH_take (i := 6) (v := ?va46) rfl (by kernel_rfl) (by kernel_rfl) (by kernel_rfl) (fun _ _ _ h => h) (Or.inl ⟨by rfl, ?ya46⟩) hHeld ?ra46
          case ya46 => (intro w' hS; (try dsimp only at hS); obtain ⟨s0, s1⟩ := hS; (try go_simp); (try with_reducible rfl))
          try simp only [Act.put, List.getElem_toArray, List.getElem_cons_zero, List.getElem_cons_succ, List.setIfInBounds_toArray, List.set_cons_zero, List.set_cons_succ]
          refine wpAnyH_take (i := 7) (v := ?va47) rfl (by kernel_rfl) (by kernel_rfl) (by kernel_rfl) (fun _ _ _ h => h) (Or.inl ⟨by rfl, ?ya47⟩) hHeld ?ra47
          case ya47 => (intro w' hS; (try dsimp only at hS); obtain ⟨s0, s1⟩ := hS; (try go_simp); (try with_reducible rfl))
          try simp only [Act.put, List.getElem_toArray, List.getElem_cons_zero, List.getElem_cons_succ, List.setIfInBounds_toArray, List.set_cons_zero, List.set_cons_succ]
          refine wpAnyH_take (i := 8) (v := ?va48) rfl (by kernel_rfl) (by kernel_rfl) (by kernel_rfl) (fun _ _ _ h => h) (Or.inl ⟨by rfl, ?ya48⟩) hHeld ?ra48
          case ya48 => (intro w' hS; (try dsimp only at hS); obtain ⟨s0, s1⟩ := hS; (try go_simp); (try with_reducible rfl))
          try simp only [Act.put, List.getElem_toArray, List.getElem_cons_zero, List.getElem_cons_succ, List.setIfInBounds_toArray, List.set_cons_zero, List.set_cons_succ]
          refine wpAnyH_take (i := 9) (v := ?va49) rfl (by kernel_rfl) (by kernel_rfl) (by kernel_rfl) (fun _ _ _ h => h) (Or.inl ⟨by rfl, ?ya49⟩) hHeld ?ra49
          case ya49 => (intro w' hS; (try dsimp only at hS); obtain ⟨s0, s1⟩ := hS; (try go_simp); (try with_reducible rfl))
          try simp only [Act.put, List.getElem_toArray, List.getElem_cons_zero, List.getElem_cons_succ, List.setIfInBounds_toArray, List.set_cons_zero, List.set_cons_succ]
          refine wpAnyH_take (i := 10) (v := ?va410) rfl (by kernel_rfl) (by kernel_rfl) (by kernel_rfl) (fun _ _ _ h => h) (Or.inl ⟨by rfl, ?ya410⟩) hHeld ?ra410
          case ya410 => (intro w' hS; (try dsimp only at hS); obtain ⟨s0, s1⟩ := hS; (try go_simp); (try with_reducible rfl))
          try simp only [Act.put, List.getElem_toArray, List.getElem_cons_zero, List.getElem_cons_succ, List.setIfInBounds_toArray, List.set_cons_zero, List.set_cons_succ]
          refine wpAnyH_take (i := 11) (v := ?va411) rfl (by kernel_rfl) (by kernel_rfl) (by kernel_rfl) (fun _ _ _ h => h) (Or.inl ⟨by rfl, ?ya411⟩) hHeld ?ra411
          case ya411 => (intro w' hS; (try dsimp only at hS); obtain ⟨s0, s1⟩ := hS; (try go_simp); (try with_reducible rfl))
          try simp only [Act.put, List.getElem_toArray, List.getElem_cons_zero, List.getElem_cons_succ, List.setIfInBounds_toArray, List.set_cons_zero, List.set_cons_succ]
          refine wpAnyH_take (i := 12) (v := ?va412) rfl (by kernel_rfl) (by kernel_rfl) (by kernel_rfl) (fun _ _ _ h => h) (Or.inl ⟨by rfl, ?ya412⟩) hHeld ?ra412
          case ya412 => (intro w' hS; (try dsimp only at hS); obtain ⟨s0, s1⟩ := hS; (try go_simp); (try with_reducible rfl))
          try simp only [Act.put, List.getElem_toArray, List.getElem_cons_zero, List.getElem_cons_succ, List.setIfInBounds_toArray, List.set_cons_zero, List.set_cons_succ]
          refine wpAnyH_take (i := 13) (v := ?va413) rfl (by kernel_rfl) (by kernel_rfl) (by kernel_rfl) (fun _ _ _ h => h) (Or.inl ⟨by rfl, ?ya413⟩) hHeld ?ra413
          case ya413 => (intro w' hS; (try dsimp only at hS); obtain ⟨s0, s1⟩ := hS; (try go_simp); (try with_reducible rfl))
          try simp only [Act.put, List.getElem_toArray, List.getElem_cons_zero, List.getElem_cons_succ, List.setIfInBounds_toArray, List.set_cons_zero, List.set_cons_succ]
          refine wpAnyH_take (i := 14) (v := ?va414) rfl (by kernel_rfl) (by kernel_rfl) (by kernel_rfl) (fun _ _ _ h => h) (Or.inl ⟨by rfl, ?ya414⟩) hHeld ?ra414
          case ya414 => (intro w' hS; (try dsimp only at hS); obtain ⟨s0, s1⟩ := hS; (try go_simp); (try with_reducible rfl))
          try simp only [Act.put, List.getElem_toArray, List.getElem_cons_zero, List.getElem_cons_succ, List.setIfInBounds_toArray, List.set_cons_zero, List.set_cons_succ]
          refine wpAnyH_done (by kernel_rfl) ?_ _
          simp only [OnlyNormal]
          gi_wp2
          by_cases hmx : sp.2 < x.1.2.2.rc.seq
          · have hmv : Hid (max sp.2 x.1.2.2.rc.seq = x.1.2.2.rc.seq) := by unfold Hid; omega
            refine region_round (by kernel_rfl) (by kernel_rfl) ?_
            refine wpAny_take (i := 0) (v := ?vb50) rfl (by kernel_rfl) (by kernel_rfl) (by kernel_rfl) (fun _ _ _ h => h) (Or.inl ⟨by rfl, ?yb50⟩) ?rb50
            case yb50 => (intro w'; (try go_simp); (try with_reducible rfl))
            try simp only [Act.put, List.getElem_toArray, List.getElem_cons_zero, List.getElem_cons_succ, List.setIfInBounds_toArray, List.set_cons_zero, List.set_cons_succ]
            refine wpAny_take (i := 1) (v := ?vb51) rfl (by kernel_rfl) (by kernel_rfl) (by kernel_rfl) (fun _ _ _ h => h) (Or.inl ⟨by rfl, ?yb51⟩) ?rb51
            case yb51 => (intro w'; (try go_simp); (try with_reducible rfl))
            try simp only [Act.put, List.getElem_toArray, List.getElem_cons_zero, List.getElem_cons_succ, List.setIfInBounds_toArray, List.set_cons_zero, List.set_cons_succ]
            refine wpAny_take (i := 2) (v := ?vb52) rfl (by kernel_rfl) (by kernel_rfl) (by kernel_rfl) (fun _ _ _ h => h) (Or.inl ⟨by rfl, ?yb52⟩) ?rb52
            case yb52 => (intro w'; (try go_simp); (try with_reducible rfl))
            try simp only [Act.put, List.getElem_toArray, List.getElem_cons_zero, List.getElem_cons_succ, List.setIfInBounds_toArray, List.set_cons_zero, List.set_cons_succ]
            refine wpAny_take (i := 3) (v := ?vb53) rfl (by kernel_rfl) (by kernel_rfl) (by kernel_rfl) (fun _ _ _ h => h) (Or.inl ⟨by rfl, ?yb53⟩) ?rb53
            case yb53 => (intro w'; (try go_simp); (try with_reducible rfl))
            try simp only [Act.put, List.getElem_toArray, List.getElem_cons_zero, List.getElem_cons_succ, List.setIfInBounds_toArray, List.set_cons_zero, List.set_cons_succ]
            refine wpAny_take (i := 5) (v := ?vb55) rfl (by kernel_rfl) (by kernel_rfl) (by kernel_rfl) (fun _ _ _ h => h) (Or.inl ⟨by rfl, ?yb55⟩) ?rb55
            case yb55 => (intro w'; (try go_simp); (try with_reducible rfl))
            try simp only [Act.put, List.getElem_toArray, List.getElem_cons_zero, List.getElem_cons_succ, List.setIfInBounds_toArray, List.set_cons_zero, List.set_cons_succ]
            refine wpAny_take (i := 6) (v := ?vb56) rfl (by kernel_rfl) (by kernel_rfl) (by kernel_rfl) (fun _ _ _ h => h) (Or.inl ⟨by rfl, ?yb56⟩) ?rb56
            case yb56 => (intro w'; (try go_simp); (try with_reducible rfl))
            try simp only [Act.put, List.getElem_toArray, List.getElem_cons_zero, List.getElem_cons_succ, List.setIfInBounds_toArray, List.set_cons_zero, List.set_cons_succ]
            refine wpAny_ready (rs := [4, 7]) (by kernel_rfl) (by simp) ?_
            refine AllReady.cons rfl (fun K hK => ?_) (AllReady.cons rfl (fun K hK => ?_) AllReady.nil)
            · go_simp
              refine hK _ _ ?_
              clear hK K
              try simp only [Act.put, List.getElem_toArray, List.getElem_cons_zero, List.getElem_cons_succ, List.setIfInBounds_toArray, List.set_cons_zero, List.set_cons_succ]
              refine wpAny_ready (rs := [7]) (by kernel_rfl) (by simp) ?_
              refine AllReady.cons rfl (fun K hK => ?_) AllReady.nil
              go_simp
              refine hK _ _ ?_
              clear hK K
              try simp only [Act.put, List.getElem_toArray, List.getElem_cons_zero, List.getElem_cons_succ, List.setIfInBounds_toArray, List.set_cons_zero, List.set_cons_succ]
              refine wpAny_take (i := 8) (v := ?vb58x4) rfl (by kernel_rfl) (by kernel_rfl) (by kernel_rfl) (fun _ _ _ h => h) (Or.inl ⟨by rfl, ?yb58x4⟩) ?rb58x4
              case yb58x4 => (intro w'; (try go_simp); (try with_reducible rfl))
              try simp only [Act.put, List.getElem_toArray, List.getElem_cons_zero, List.getElem_cons_succ, List.setIfInBounds_toArray, List.set_cons_zero, List.set_cons_succ]
              refine wpAny_take (i := 9) (v := ?vb59x4) rfl (by kernel_rfl) (by kernel_rfl) (by kernel_rfl) (fun _ _ _ h => h) (Or.inl ⟨by rfl, ?yb59x4⟩) ?rb59x4
              case yb59x4 => (intro w'; (try go_simp); (try with_reducible rfl))
              try simp only [Act.put, List.getElem_toArray, List.getElem_cons_zero, List.getElem_cons_succ, List.setIfInBounds_toArray, List.set_cons_zero, List.set_cons_succ]
              refine wpAny_take (i := 10) (v := ?vb510x4) rfl (by kernel_rfl) (by kernel_rfl) (by kernel_rfl) (fun _ _ _ h => h) (Or.inl ⟨by rfl, ?yb510x4⟩) ?rb510x4
              case yb510x4 => (intro w'; (try go_simp); (try with_reducible rfl))
              try simp only [Act.put, List.getElem_toArray, List.getElem_cons_zero, List.getElem_cons_succ, List.setIfInBounds_toArray, List.set_cons_zero, List.set_cons_succ]
              refine wpAny_ready (rs := [11]) (by kernel_rfl) (by simp) ?_
              refine AllReady.cons rfl (fun K hK => ?_) AllReady.nil
              go_simp
              refine hK _ _ ?_
              clear hK K
              try simp only [Act.put, List.getElem_toArray, List.getElem_cons_zero, List.getElem_cons_succ, List.setIfInBounds_toArray, List.set_cons_zero, List.set_cons_succ]
              refine wpAny_done (by kernel_rfl) ?_ _
              simp only [OnlyNormal]
              have hW : Wrote W ((W.setCell ⟨w.heap.size, x.1.1 * 2, none⟩ (.int .i64 x.1.2.2.rc.seq)).setCell ⟨w.heap.size, x.1.1 * 2 + 1, none⟩ (.int .i64 x.1.2.2.rc.seq)) w.heap.size (x.1.1 * 2) (Spn (lowOf sp x.1.2.2.rc.seq, max sp.2 x.1.2.2.rc.seq)) := by
                rw [hlo.out, hmv.out]
                exact wrote_setRow w.heap.size [.int .i64 x.1.2.2.rc.seq, .int .i64 x.1.2.2.rc.seq] (x.1.1 * 2) W (fun j hj => by
                  match j, hj with
                  | 0, _ => exact ⟨_, l0⟩
                  | 1, _ => exact ⟨_, l1⟩)
              have hBL : Below w.heap.size W ((W.setCell ⟨w.heap.size, x.1.1 * 2, none⟩ (.int .i64 x.1.2.2.rc.seq)).setCell ⟨w.heap.size, x.1.1 * 2 + 1, none⟩ (.int .i64 x.1.2.2.rc.seq)).drew.drew := ((((Below.refl w.heap.size W).setCell (p := ⟨w.heap.size, x.1.1 * 2, none⟩) (Nat.le_refl _) (.int .i64 x.1.2.2.rc.seq)).setCell (p := ⟨w.heap.size, x.1.1 * 2 + 1, none⟩) (Nat.le_refl _) (.int .i64 x.1.2.2.rc.seq)).drew).drew
              have hBX : Boxed ((W.setCell ⟨w.heap.size, x.1.1 * 2, none⟩ (.int .i64 x.1.2.2.rc.seq)).setCell ⟨w.heap.size, x.1.1 * 2 + 1, none⟩ (.int .i64 x.1.2.2.rc.seq)).drew.drew (w.heap.size + 1) 94 (.slice (some ⟨w.heap.size, 0, none⟩) 4 4) := (hW.block (w.heap.size + 1) (by omega)).trans bV1
              have hRW : Row ((W.setCell ⟨w.heap.size, x.1.1 * 2, none⟩ (.int .i64 x.1.2.2.rc.seq)).setCell ⟨w.heap.size, x.1.1 * 2 + 1, none⟩ (.int .i64 x.1.2.2.rc.seq)).drew.drew (some ⟨w.heap.size, 0, none⟩) (spv (spOf ((pre ++ [x]).map Subtype.val))) := (HROW.out _ hW).drew.drew
              clear hW HROW
              gi_wp2
              exact ⟨((((KeepsOthers.setCell _ _ _).trans (KeepsOthers.setCell _ _ _)).trans (KeepsOthers.drew _)).trans (KeepsOthers.drew _)).from _, hBL, ⟨hBX, hRW⟩, hB1.trans hBL⟩
            · go_simp
              refine hK _ _ ?_
              clear hK K
              try simp only [Act.put, List.getElem_toArray, List.getElem_cons_zero, List.getElem_cons_succ, List.setIfInBounds_toArray, List.set_cons_zero, List.set_cons_succ]
              refine wpAny_ready (rs := [4]) (by kernel_rfl) (by simp) ?_
              refine AllReady.cons rfl (fun K hK => ?_) AllReady.nil
              go_simp
              refine hK _ _ ?_
              clear hK K
              try simp only [Act.put, List.getElem_toArray, List.getElem_cons_zero, List.getElem_cons_succ, List.setIfInBounds_toArray, List.set_cons_zero, List.set_cons_succ]
              refine wpAny_take (i := 8) (v := ?vb58x7) rfl (by kernel_rfl) (by kernel_rfl) (by kernel_rfl) (fun _ _ _ h => h) (Or.inl ⟨by rfl, ?yb58x7⟩) ?rb58x7
              case yb58x7 => (intro w'; (try go_simp); (try with_reducible rfl))
              try simp only [Act.put, List.getElem_toArray, List.getElem_cons_zero, List.getElem_cons_succ, List.setIfInBounds_toArray, List.set_cons_zero, List.set_cons_succ]
              refine wpAny_take (i := 9) (v := ?vb59x7) rfl (by kernel_rfl) (by kernel_rfl) (by kernel_rfl) (fun _ _ _ h => h) (Or.inl ⟨by rfl, ?yb59x7⟩) ?rb59x7
              case yb59x7 => (intro w'; (try go_simp); (try with_reducible rfl))
              try simp only [Act.put, List.getElem_toArray, List.getElem_cons_zero, List.getElem_cons_succ, List.setIfInBounds_toArray, List.set_cons_zero, List.set_cons_succ]
              refine wpAny_take (i := 10) (v := ?vb510x7) rfl (by kernel_rfl) (by kernel_rfl) (by kernel_rfl) (fun _ _ _ h => h) (Or.inl ⟨by rfl, ?yb510x7⟩) ?rb510x7
              case yb510x7 => (intro w'; (try go_simp); (try with_reducible rfl))
              try simp only [Act.put, List.getElem_toArray, List.getElem_cons_zero, List.getElem_cons_succ, List.setIfInBounds_toArray, List.set_cons_zero, List.set_cons_succ]
              refine wpAny_ready (rs := [11]) (by kernel_rfl) (by simp) ?_
              refine AllReady.cons rfl (fun K hK => ?_) AllReady.nil
              go_simp
              refine hK _ _ ?_
              clear hK K
              try simp only [Act.put, List.getElem_toArray, List.getElem_cons_zero, List.getElem_cons_succ, List.setIfInBounds_toArray, List.set_cons_zero, List.set_cons_succ]
              refine wpAny_done (by kernel_rfl) ?_ _
              simp only [OnlyNormal]
              have hW : Wrote W ((W.setCell ⟨w.heap.size, x.1.1 * 2, none⟩ (.int .i64 x.1.2.2.rc.seq)).setCell ⟨w.heap.size, x.1.1 * 2 + 1, none⟩ (.int .i64 x.1.2.2.rc.seq)) w.heap.size (x.1.1 * 2) (Spn (lowOf sp x.1.2.2.rc.seq, max sp.2 x.1.2.2.rc.seq)) := by
                rw [hlo.out, hmv.out]
                exact wrote_setRow w.heap.size [.int .i64 x.1.2.2.rc.seq, .int .i64 x.1.2.2.rc.seq] (x.1.1 * 2) W (fun j hj => by
                  match j, hj with
                  | 0, _ => exact ⟨_, l0⟩
                  | 1, _ => exact ⟨_, l1⟩)
              have hBL : Below w.heap.size W ((W.setCell ⟨w.heap.size, x.1.1 * 2, none⟩ (.int .i64 x.1.2.2.rc.seq)).setCell ⟨w.heap.size, x.1.1 * 2 + 1, none⟩ (.int .i64 x.1.2.2.rc.seq)).drew.drew := ((((Below.refl w.heap.size W).setCell (p := ⟨w.heap.size, x.1.1 * 2, none⟩) (Nat.le_refl _) (.int .i64 x.1.2.2.rc.seq)).setCell (p := ⟨w.heap.size, x.1.1 * 2 + 1, none⟩) (Nat.le_refl _) (.int .i64 x.1.2.2.rc.seq)).drew).drew
              have hBX : Boxed ((W.setCell ⟨w.heap.size, x.1.1 * 2, none⟩ (.int .i64 x.1.2.2.rc.seq)).setCell ⟨w.heap.size, x.1.1 * 2 + 1, none⟩ (.int .i64 x.1.2.2.rc.seq)).drew.drew (w.heap.size + 1) 94 (.slice (some ⟨w.heap.size, 0, none⟩) 4 4) := (hW.block (w.heap.size + 1) (by omega)).trans bV1
              have hRW : Row ((W.setCell ⟨w.heap.size, x.1.1 * 2, none⟩ (.int .i64 x.1.2.2.rc.seq)).setCell ⟨w.heap.size, x.1.1 * 2 + 1, none⟩ (.int .i64 x.1.2.2.rc.seq)).drew.drew (some ⟨w.heap.size, 0, none⟩) (spv (spOf ((pre ++ [x]).map Subtype.val))) := (HROW.out _ hW).drew.drew
              clear hW HROW
              gi_wp2
              exact ⟨((((KeepsOthers.setCell _ _ _).trans (KeepsOthers.setCell _ _ _)).trans (KeepsOthers.drew _)).trans (KeepsOthers.drew _)).from _, hBL, ⟨hBX, hRW⟩, hB1.trans hBL⟩
          · have hmv : Hid (max sp.2 x.1.2.2.rc.seq = sp.2) := by unfold Hid; omega
            refine region_round (by kernel_rfl) (by kernel_rfl) ?_
            refine wpAny_take (i := 0) (v := ?vb60) rfl (by kernel_rfl) (by kernel_rfl) (by kernel_rfl) (fun _ _ _ h => h) (Or.inl ⟨by rfl, ?yb60⟩) ?rb60
            case yb60 => (intro w'; (try go_simp); (try with_reducible rfl))
            try simp only [Act.put, List.getElem_toArray, List.getElem_cons_zero, List.getElem_cons_succ, List.setIfInBounds_toArray, List.set_cons_zero, List.set_cons_succ]
            refine wpAny_take (i := 1) (v := ?vb61) rfl (by kernel_rfl) (by kernel_rfl) (by kernel_rfl) (fun _ _ _ h => h) (Or.inl ⟨by rfl, ?yb61⟩) ?rb61
            case yb61 => (intro w'; (try go_simp); (try with_reducible rfl))
            try simp only [Act.put, List.getElem_toArray, List.getElem_cons_zero, List.getElem_cons_succ, List.setIfInBounds_toArray, List.set_cons_zero, List.set_cons_succ]
            refine wpAny_take (i := 2) (v := ?vb62) rfl (by kernel_rfl) (by kernel_rfl) (by kernel_rfl) (fun _ _ _ h => h) (Or.inl ⟨by rfl, ?yb62⟩) ?rb62
            case yb62 => (intro w'; (try go_simp); (try with_reducible rfl))
            try simp only [Act.put, List.getElem_toArray, List.getElem_cons_zero, List.getElem_cons_succ, List.setIfInBounds_toArray, List.set_cons_zero, List.set_cons_succ]
            refine wpAny_take (i := 3) (v := ?vb63) rfl (by kernel_rfl) (by kernel_rfl) (by kernel_rfl) (fun _ _ _ h => h) (Or.inl ⟨by rfl, ?yb63⟩) ?rb63
            case yb63 => (intro w'; (try go_simp); (try with_reducible rfl))
            try simp only [Act.put, List.getElem_toArray, List.getElem_cons_zero, List.getElem_cons_succ, List.setIfInBounds_toArray, List.set_cons_zero, List.set_cons_succ]
            refine wpAny_take (i := 5) (v := ?vb65) rfl (by kernel_rfl) (by kernel_rfl) (by kernel_rfl) (fun _ _ _ h => h) (Or.inl ⟨by rfl, ?yb65⟩) ?rb65
            case yb65 => (intro w'; (try go_simp); (try with_reducible rfl))
            try simp only [Act.put, List.getElem_toArray, List.getElem_cons_zero, List.getElem_cons_succ, List.setIfInBounds_toArray, List.set_cons_zero, List.set_cons_succ]
            refine wpAny_take (i := 6) (v := ?vb66) rfl (by kernel_rfl) (by kernel_rfl) (by kernel_rfl) (fun _ _ _ h => h) (Or.inl ⟨by rfl, ?yb66⟩) ?rb66
            case yb66 => (intro w'; (try go_simp); (try with_reducible rfl))
            try simp only [Act.put, List.getElem_toArray, List.getElem_cons_zero, List.getElem_cons_succ, List.setIfInBounds_toArray, List.set_cons_zero, List.set_cons_succ]
            refine wpAny_ready (rs := [4, 7]) (by kernel_rfl) (by simp) ?_
            refine AllReady.cons rfl (fun K hK => ?_) (AllReady.cons rfl (fun K hK => ?_) AllReady.nil)
            · go_simp
              refine hK _ _ ?_
              clear hK K
              try simp only [Act.put, List.getElem_toArray, List.getElem_cons_zero, List.getElem_cons_succ, List.setIfInBounds_toArray, List.set_cons_zero, List.set_cons_succ]
              refine wpAny_ready (rs := [7]) (by kernel_rfl) (by simp) ?_
              refine AllReady.cons rfl (fun K hK => ?_) AllReady.nil
              go_simp
              refine hK _ _ ?_
              clear hK K
              try simp only [Act.put, List.getElem_toArray, List.getElem_cons_zero, List.getElem_cons_succ, List.setIfInBounds_toArray, List.set_cons_zero, List.set_cons_succ]
              refine wpAny_take (i := 8) (v := ?vb68x4) rfl (by kernel_rfl) (by kernel_rfl) (by kernel_rfl) (fun _ _ _ h => h) (Or.inl ⟨by rfl, ?yb68x4⟩) ?rb68x4
              case yb68x4 => (intro w'; (try go_simp); (try with_reducible rfl))
              try simp only [Act.put, List.getElem_toArray, List.getElem_cons_zero, List.getElem_cons_succ, List.setIfInBounds_toArray, List.set_cons_zero, List.set_cons_succ]
              refine wpAny_take (i := 9) (v := ?vb69x4) rfl (by kernel_rfl) (by kernel_rfl) (by kernel_rfl) (fun _ _ _ h => h) (Or.inl ⟨by rfl, ?yb69x4⟩) ?rb69x4
              case yb69x4 => (intro w'; (try go_simp); (try with_reducible rfl))
              try simp only [Act.put, List.getElem_toArray, List.getElem_cons_zero, List.getElem_cons_succ, List.setIfInBounds_toArray, List.set_cons_zero, List.set_cons_succ]
              refine wpAny_take (i := 10) (v := ?vb610x4) rfl (by kernel_rfl) (by kernel_rfl) (by kernel_rfl) (fun _ _ _ h => h) (Or.inl ⟨by rfl, ?yb610x4⟩) ?rb610x4
              case yb610x4 => (intro w'; (try go_simp); (try with_reducible rfl))
              try simp only [Act.put, List.getElem_toArray, List.getElem_cons_zero, List.getElem_cons_succ, List.setIfInBounds_toArray, List.set_cons_zero, List.set_cons_succ]
              refine wpAny_ready (rs := [11]) (by kernel_rfl) (by simp) ?_
              refine AllReady.cons rfl (fun K hK => ?_) AllReady.nil
              go_simp
              refine hK _ _ ?_
              clear hK K
              try simp only [Act.put, List.getElem_toArray, List.getElem_cons_zero, List.getElem_cons_succ, List.setIfInBounds_toArray, List.set_cons_zero, List.set_cons_succ]
              refine wpAny_done (by kernel_rfl) ?_ _
              simp only [OnlyNormal]
              have hW : Wrote W ((W.setCell ⟨w.heap.size, x.1.1 * 2, none⟩ (.int .i64 x.1.2.2.rc.seq)).setCell ⟨w.heap.size, x.1.1 * 2 + 1, none⟩ (.int .i64 sp.2)) w.heap.size (x.1.1 * 2) (Spn (lowOf sp x.1.2.2.rc.seq, max sp.2 x.1.2.2.rc.seq)) := by
                rw [hlo.out, hmv.out]
                exact wrote_setRow w.heap.size [.int .i64 x.1.2.2.rc.seq, .int .i64 sp.2] (x.1.1 * 2) W (fun j hj => by
                  match j, hj with
                  | 0, _ => exact ⟨_, l0⟩
                  | 1, _ => exact ⟨_, l1⟩)
              have hBL : Below w.heap.size W ((W.setCell ⟨w.heap.size, x.1.1 * 2, none⟩ (.int .i64 x.1.2.2.rc.seq)).setCell ⟨w.heap.size, x.1.1 * 2 + 1, none⟩ (.int .i64 sp.2)).drew.drew := ((((Below.refl w.heap.size W).setCell (p := ⟨w.heap.size, x.1.1 * 2, none⟩) (Nat.le_refl _) (.int .i64 x.1.2.2.rc.seq)).setCell (p := ⟨w.heap.size, x.1.1 * 2 + 1, none⟩) (Nat.le_refl _) (.int .i64 sp.2)).drew).drew
              have hBX : Boxed ((W.setCell ⟨w.heap.size, x.1.1 * 2, none⟩ (.int .i64 x.1.2.2.rc.seq)).setCell ⟨w.heap.size, x.1.1 * 2 + 1, none⟩ (.int .i64 sp.2)).drew.drew (w.heap.size + 1) 94 (.slice (some ⟨w.heap.size, 0, none⟩) 4 4) := (hW.block (w.heap.size + 1) (by omega)).trans bV1
              have hRW : Row ((W.setCell ⟨w.heap.size, x.1.1 * 2, none⟩ (.int .i64 x.1.2.2.rc.seq)).setCell ⟨w.heap.size, x.1.1 * 2 + 1, none⟩ (.int .i64 sp.2)).drew.drew (some ⟨w.heap.size, 0, none⟩) (spv (spOf ((pre ++ [x]).map Subtype.val))) := (HROW.out _ hW).drew.drew
              clear hW HROW
              gi_wp2
              exact ⟨((((KeepsOthers.setCell _ _ _).trans (KeepsOthers.setCell _ _ _)).trans (KeepsOthers.drew _)).trans (KeepsOthers.drew _)).from _, hBL, ⟨hBX, hRW⟩, hB1.trans hBL⟩
            · go_simp
              refine hK _ _ ?_
              clear hK K
              try simp only [Act.put, List.getElem_toArray, List.getElem_cons_zero, List.getElem_cons_succ, List.setIfInBounds_toArray, List.set_cons_zero, List.set_cons_succ]
              refine wpAny_ready (rs := [4]) (by kernel_rfl) (by simp) ?_
              refine AllReady.cons rfl (fun K hK => ?_) AllReady.nil
              go_simp
              refine hK _ _ ?_
              clear hK K
              try simp only [Act.put, List.getElem_toArray, List.getElem_cons_zero, List.getElem_cons_succ, List.setIfInBounds_toArray, List.set_cons_zero, List.set_cons_succ]
              refine wpAny_take (i := 8) (v := ?vb68x7) rfl (by kernel_rfl) (by kernel_rfl) (by kernel_rfl) (fun _ _ _ h => h) (Or.inl ⟨by rfl, ?yb68x7⟩) ?rb68x7
              case yb68x7 => (intro w'; (try go_simp); (try with_reducible rfl))
              try simp only [Act.put, List.getElem_toArray, List.getElem_cons_zero, List.getElem_cons_succ, List.setIfInBounds_toArray, List.set_cons_zero, List.set_cons_succ]
              refine wpAny_take (i := 9) (v := ?vb69x7) rfl (by kernel_rfl) (by kernel_rfl) (by kernel_rfl) (fun _ _ _ h => h) (Or.inl ⟨by rfl, ?yb69x7⟩) ?rb69x7
              case yb69x7 => (intro w'; (try go_simp); (try with_reducible rfl))
              try simp only [Act.put, List.getElem_toArray, List.getElem_cons_zero, List.getElem_cons_succ, List.setIfInBounds_toArray, List.set_cons_zero, List.set_cons_succ]
              refine wpAny_take (i := 10) (v := ?vb610x7) rfl (by kernel_rfl) (by kernel_rfl) (by kernel_rfl) (fun _ _ _ h => h) (Or.inl ⟨by rfl, ?yb610x7⟩) ?rb610x7
              case yb610x7 => (intro w'; (try go_simp); (try with_reducible rfl))
              try simp only [Act.put, List.getElem_toArray, List.getElem_cons_zero, List.getElem_cons_succ, List.setIfInBounds_toArray, List.set_cons_zero, List.set_cons_succ]
              refine wpAny_ready (rs := [11]) (by kernel_rfl) (by simp) ?_
              refine AllReady.cons rfl (fun K hK => ?_) AllReady.nil
              go_simp
              refine hK _ _ ?_
              clear hK K
              try simp only [Act.put, List.getElem_toArray, List.getElem_cons_zero, List.getElem_cons_succ, List.setIfInBounds_toArray, List.set_cons_zero, List.set_cons_succ]
              refine wpAny_done (by kernel_rfl) ?_ _
              simp only [OnlyNormal]
              have hW : Wrote W ((W.setCell ⟨w.heap.size, x.1.1 * 2, none⟩ (.int .i64 x.1.2.2.rc.seq)).setCell ⟨w.heap.size, x.1.1 * 2 + 1, none⟩ (.int .i64 sp.2)) w.heap.size (x.1.1 * 2) (Spn (lowOf sp x.1.2.2.rc.seq, max sp.2 x.1.2.2.rc.seq)) := by
                rw [hlo.out, hmv.out]
                exact wrote_setRow w.heap.size [.int .i64 x.1.2.2.rc.seq, .int .i64 sp.2] (x.1.1 * 2) W (fun j hj => by
                  match j, hj with
                  | 0, _ => exact ⟨_, l0⟩
                  | 1, _ => exact ⟨_, l1⟩)
              have hBL : Below w.heap.size W ((W.setCell ⟨w.heap.size, x.1.1 * 2, none⟩ (.int .i64 x.1.2.2.rc.seq)).setCell ⟨w.heap.size, x.1.1 * 2 + 1, none⟩ (.int .i64 sp.2)).drew.drew := ((((Below.refl w.heap.size W).setCell (p := ⟨w.heap.size, x.1.1 * 2, none⟩) (Nat.le_refl _) (.int .i64 x.1.2.2.rc.seq)).setCell (p := ⟨w.heap.size, x.1.1 * 2 + 1, none⟩) (Nat.le_refl _) (.int .i64 sp.2)).drew).drew
              have hBX : Boxed ((W.setCell ⟨w.heap.size, x.1.1 * 2, none⟩ (.int .i64 x.1.2.2.rc.seq)).setCell ⟨w.heap.size, x.1.1 * 2 + 1, none⟩ (.int .i64 sp.2)).drew.drew (w.heap.size + 1) 94 (.slice (some ⟨w.heap.size, 0, none⟩) 4 4) := (hW.block (w.heap.size + 1) (by omega)).trans bV1
              have hRW : Row ((W.setCell ⟨w.heap.size, x.1.1 * 2, none⟩ (.int .i64 x.1.2.2.rc.seq)).setCell ⟨w.heap.size, x.1.1 * 2 + 1, none⟩ (.int .i64 sp.2)).drew.drew (some ⟨w.heap.size, 0, none⟩) (spv (spOf ((pre ++ [x]).map Subtype.val))) := (HROW.out _ hW).drew.drew
              clear hW HROW
              gi_wp2
              exact ⟨((((KeepsOthers.setCell _ _ _).trans (KeepsOthers.setCell _ _ _)).trans (KeepsOthers.drew _)).trans (KeepsOthers.drew _)).from _, hBL, ⟨hBX, hRW⟩, hB1.trans hBL⟩
        · have hlo : Hid (lowOf sp x.1.2.2.rc.seq = sp.1) := by unfold Hid lowOf; rw [if_neg (by rintro (h | h); exact hz h; exact hq h)]
          gi_wp2
          refine region_round_held (S := fun w' => w'.cell? ⟨w.heap.size, x.1.1 * 2, none⟩ = some (.int .i64 sp.1) ∧ w'.cell? ⟨B5, 2, none⟩ = some (.int .i64 x.1.2.2.rc.seq)) (by kernel_rfl) (by kernel_rfl) ⟨l0, x2⟩ (fun hHeld => ?_)
          refine wpAnyH_take (i := 0) (v := ?va70) rfl (by kernel_rfl) (by kernel_rfl) (by kernel_rfl) (fun _ _ _ h => h) (Or.inl ⟨by rfl, ?ya70⟩) hHeld ?ra70
          case ya70 => (intro w' hS; (try dsimp only at hS); obtain ⟨s0, s1⟩ := hS; (try go_simp); (try with_reducible rfl))
          try simp only [Act.put, List.getElem_toArray, List.getElem_cons_zero, List.getElem_cons_succ, List.setIfInBounds_toArray, List.set_cons_zero, List.set_cons_succ]
          refine wpAnyH_take (i := 1) (v := ?va71) rfl (by kernel_rfl) (by kernel_rfl) (by kernel_rfl) (fun _ _ _ h => h) (Or.inl ⟨by rfl, ?ya71⟩) hHeld ?ra71
          case ya71 => (intro w' hS; (try dsimp only at hS); obtain ⟨s0, s1⟩ := hS; (try go_simp); (try with_reducible rfl))
          try simp only [Act.put, List.getElem_toArray, List.getElem_cons_zero, List.getElem_cons_succ, List.setIfInBounds_toArray, List.set_cons_zero, List.set_cons_succ]
          refine wpAnyH_take (i := 2) (v := ?va72) rfl (by kernel_rfl) (by kernel_rfl) (by kernel_rfl) (fun _ _ _ h => h) (Or.inl ⟨by rfl, ?ya72⟩) hHeld ?ra72
          case ya72 => (intro w' hS; (try dsimp only at hS); obtain ⟨s0, s1⟩ := hS; (try go_simp); (try with_reducible rfl))
          try simp only [Act.put, List.getElem_toArray, List.getElem_cons_zero, List.getElem_cons_succ, List.setIfInBounds_toArray, List.set_cons_zero, List.set_cons_succ]
          refine wpAnyH_take (i := 3) (v := ?va73) rfl (by kernel_rfl) (by kernel_rfl) (by kernel_rfl) (fun _ _ _ h => h) (Or.inl ⟨by rfl, ?ya73⟩) hHeld ?ra73
          case ya73 => (intro w' hS; (try dsimp only at hS); obtain ⟨s0, s1⟩ := hS; (try go_simp); (try with_reducible rfl))
          try simp only [Act.put, List.getElem_toArray, List.getElem_cons_zero, List.getElem_cons_succ, List.setIfInBounds_toArray, List.set_cons_zero, List.set_cons_succ]
          refine wpAnyH_take (i := 4) (v := ?va74) rfl (by kernel_rfl) (by kernel_rfl) (by kernel_rfl) (fun _ _ _ h => h) (Or.inl ⟨by rfl, ?ya74⟩) hHeld ?ra74
          case ya74 => (intro w' hS; (try dsimp only at hS); obtain ⟨s0, s1⟩ := hS; (try go_simp); (try with_reducible rfl))
          try simp only [Act.put, List.getElem_toArray, List.getElem_cons_zero, List.getElem_cons_succ, List.setIfInBounds_toArray, List.set_cons_zero, List.set_cons_succ]
          refine wpAnyH_take (i := 5) (v := ?va75) rfl (by kernel_rfl) (by kernel_rfl) (by kernel_rfl) (fun _ _ _ h => h) (Or.inl ⟨by rfl, ?ya75⟩) hHeld ?ra75
          case ya75 => (intro w' hS; (try dsimp only at hS); obtain ⟨s0, s1⟩ := hS; (try go_simp); (try with_reducible rfl))
          try simp only [Act.put, List.getElem_toArray, List.getElem_cons_zero, List.getElem_cons_succ, List.setIfInBounds_toArray, List.set_cons_zero, List.set_cons_succ]
          refine wpAnyH_take (i := 6) (v := ?va76) rfl (by kernel_rfl) (by kernel_rfl) (by kernel_rfl) (fun _ _ _ h => h) (Or.inl ⟨by rfl, ?ya76⟩) hHeld ?ra76
          case ya76 => (intro w' hS; (try dsimp only at hS); obtain ⟨s0, s1⟩ := hS; (try go_simp); (try with_reducible rfl))
          try simp only [Act.put, List.getElem_toArray, List.getElem_cons_zero, List.getElem_cons_succ, List.setIfInBounds_toArray, List.set_cons_zero, List.set_cons_succ]
          refine wpAnyH_take (i := 7) (v := ?va77) rfl (by kernel_rfl) (by kernel_rfl) (by kernel_rfl) (fun _ _ _ h => h) (Or.inl ⟨by rfl, ?ya77⟩) hHeld ?ra77
          case ya77 => (intro w' hS; (try dsimp only at hS); obtain ⟨s0, s1⟩ := hS; (try go_simp); (try with_reducible rfl))
          try simp only [Act.put, List.getElem_toArray, List.getElem_cons_zero, List.getElem_cons_succ, List.setIfInBounds_toArray, List.set_cons_zero, List.set_cons_succ]
          refine wpAnyH_take (i := 8) (v := ?va78) rfl (by kernel_rfl) (by kernel_rfl) (by kernel_rfl) (fun _ _ _ h => h) (Or.inl ⟨by rfl, ?ya78⟩) hHeld ?ra78
          case ya78 => (intro w' hS; (try dsimp only at hS); obtain ⟨s0, s1⟩ := hS; (try go_simp); (try with_reducible rfl))
          try simp only [Act.put, List.getElem_toArray, List.getElem_cons_zero, List.getElem_cons_succ, List.setIfInBounds_toArray, List.set_cons_zero, List.set_cons_succ]
          refine wpAnyH_take (i := 9) (v := ?va79) rfl (by kernel_rfl) (by kernel_rfl) (by kernel_rfl) (fun _ _ _ h => h) (Or.inl ⟨by rfl, ?ya79⟩) hHeld ?ra79
          case ya79 => (intro w' hS; (try dsimp only at hS); obtain ⟨s0, s1⟩ := hS; (try go_simp); (try with_reducible rfl))
          try simp only [Act.put, List.getElem_toArray, List.getElem_cons_zero, List.getElem_cons_succ, List.setIfInBounds_toArray, List.set_cons_zero, List.set_cons_succ]
          refine wpAnyH_take (i := 10) (v := ?va710) rfl (by kernel_rfl) (by kernel_rfl) (by kernel_rfl) (fun _ _ _ h => h) (Or.inl ⟨by rfl, ?ya710⟩) hHeld ?ra710
          case ya710 => (intro w' hS; (try dsimp only at hS); obtain ⟨s0, s1⟩ := hS; (try go_simp); (try with_reducible rfl))
          try simp only [Act.put, List.getElem_toArray, List.getElem_cons_zero, List.getElem_cons_succ, List.setIfInBounds_toArray, List.set_cons_zero, List.set_cons_succ]
          refine wpAnyH_take (i := 11) (v := ?va711) rfl (by kernel_rfl) (by kernel_rfl) (by kernel_rfl) (fun _ _ _ h => h) (Or.inl ⟨by rfl, ?ya711⟩) hHeld ?ra711
          case ya711 => (intro w' hS; (try dsimp only at hS); obtain ⟨s0, s1⟩ := hS; (try go_simp); (try with_reducible rfl))
          try simp only [Act.put, List.getElem_toArray, List.getElem_cons_zero, List.getElem_cons_succ, List.setIfInBounds_toArray, List.set_cons_zero, List.set_cons_succ]
          refine wpAnyH_take (i := 12) (v := ?va712) rfl (by kernel_rfl) (by kernel_rfl) (by kernel_rfl) (fun _ _ _ h => h) (Or.inl ⟨by rfl, ?ya712⟩) hHeld ?ra712
          case ya712 => (intro w' hS; (try dsimp only at hS); obtain ⟨s0, s1⟩ := hS; (try go_simp); (try with_reducible rfl))
          try simp only [Act.put, List.getElem_toArray, List.getElem_cons_zero, List.getElem_cons_succ, List.setIfInBounds_toArray, List.set_cons_zero, List.set_cons_succ]
          refine wpAnyH_take (i := 13) (v := ?va713) rfl (by kernel_rfl) (by kernel_rfl) (by kernel_rfl) (fun _ _ _ h => h) (Or.inl ⟨by rfl, ?ya713⟩) hHeld ?ra713
          case ya713 => (intro w' hS; (try dsimp only at hS); obtain ⟨s0, s1⟩ := hS; (try go_simp); (try with_reducible rfl))
          try simp only [Act.put, List.getElem_toArray, List.getElem_cons_zero, List.getElem_cons_succ, List.setIfInBounds_toArray, List.set_cons_zero, List.set_cons_succ]
          refine wpAnyH_take (i := 14) (v := ?va714) rfl (by kernel_rfl) (by kernel_rfl) (by kernel_rfl) (fun _ _ _ h => h) (Or.inl ⟨by rfl, ?ya714⟩) hHeld ?ra714
          case ya714 => (intro w' hS; (try dsimp only at hS); obtain ⟨s0, s1⟩ := hS; (try go_simp); (try with_reducible rfl))
          try simp only [Act.put, List.getElem_toArray, List.getElem_cons_zero, List.getElem_cons_succ, List.setIfInBounds_toArray, List.set_cons_zero, List.set_cons_succ]
          refine wpAnyH_done (by kernel_rfl) ?_ _
          simp only [OnlyNormal]
          gi_wp2
          by_cases hmx : sp.2 < x.1.2.2.rc.seq
          · have hmv : Hid (max sp.2 x.1.2.2.rc.seq = x.1.2.2.rc.seq) := by unfold Hid; omega
            refine region_round (by kernel_rfl) (by kernel_rfl) ?_
            refine wpAny_take (i := 0) (v := ?vb80) rfl (by kernel_rfl) (by kernel_rfl) (by kernel_rfl) (fun _ _ _ h => h) (Or.inl ⟨by rfl, ?yb80⟩) ?rb80
            case yb80 => (intro w'; (try go_simp); (try with_reducible rfl))
            try simp only [Act.put, List.getElem_toArray, List.getElem_cons_zero, List.getElem_cons_succ, List.setIfInBounds_toArray, List.set_cons_zero, List.set_cons_succ]
            refine wpAny_take (i := 1) (v := ?vb81) rfl (by kernel_rfl) (by kernel_rfl) (by kernel_rfl) (fun _ _ _ h => h) (Or.inl ⟨by rfl, ?yb81⟩) ?rb81
            case yb81 => (intro w'; (try go_simp); (try with_reducible rfl))
            try simp only [Act.put, List.getElem_toArray, List.getElem_cons_zero, List.getElem_cons_succ, List.setIfInBounds_toArray, List.set_cons_zero, List.set_cons_succ]
            refine wpAny_take (i := 2) (v := ?vb82) rfl (by kernel_rfl) (by kernel_rfl) (by kernel_rfl) (fun _ _ _ h => h) (Or.inl ⟨by rfl, ?yb82⟩) ?rb82
            case yb82 => (intro w'; (try go_simp); (try with_reducible rfl))
            try simp only [Act.put, List.getElem_toArray, List.getElem_cons_zero, List.getElem_cons_succ, List.setIfInBounds_toArray, List.set_cons_zero, List.set_cons_succ]
            refine wpAny_take (i := 3) (v := ?vb83) rfl (by kernel_rfl) (by kernel_rfl) (by kernel_rfl) (fun _ _ _ h => h) (Or.inl ⟨by rfl, ?yb83⟩) ?rb83
            case yb83 => (intro w'; (try go_simp); (try with_reducible rfl))
            try simp only [Act.put, List.getElem_toArray, List.getElem_cons_zero, List.getElem_cons_succ, List.setIfInBounds_toArray, List.set_cons_zero, List.set_cons_succ]
            refine wpAny_take (i := 5) (v := ?vb85) rfl (by kernel_rfl) (by kernel_rfl) (by kernel_rfl) (fun _ _ _ h => h) (Or.inl ⟨by rfl, ?yb85⟩) ?rb85
            case yb85 => (intro w'; (try go_simp); (try with_reducible rfl))
            try simp only [Act.put, List.getElem_toArray, List.getElem_cons_zero, List.getElem_cons_succ, List.setIfInBounds_toArray, List.set_cons_zero, List.set_cons_succ]
            refine wpAny_take (i := 6) (v := ?vb86) rfl (by kernel_rfl) (by kernel_rfl) (by kernel_rfl) (fun _ _ _ h => h) (Or.inl ⟨by rfl, ?yb86⟩) ?rb86
            case yb86 => (intro w'; (try go_simp); (try with_reducible rfl))
            try simp only [Act.put, List.getElem_toArray, List.getElem_cons_zero, List.getElem_cons_succ, List.setIfInBounds_toArray, List.set_cons_zero, List.set_cons_succ]
            refine wpAny_ready (rs := [4, 7]) (by kernel_rfl) (by simp) ?_
            refine AllReady.cons rfl (fun K hK => ?_) (AllReady.cons rfl (fun K hK => ?_) AllReady.nil)
            · go_simp
              refine hK _ _ ?_
              clear hK K
              try simp only [Act.put, List.getElem_toArray, List.getElem_cons_zero, List.getElem_cons_succ, List.setIfInBounds_toArray, List.set_cons_zero, List.set_cons_succ]
              refine wpAny_ready (rs := [7]) (by kernel_rfl) (by simp) ?_
              refine AllReady.cons rfl (fun K hK => ?_) AllReady.nil
              go_simp
              refine hK _ _ ?_
              clear hK K
              try simp only [Act.put, List.getElem_toArray, List.getElem_cons_zero, List.getElem_cons_succ, List.setIfInBounds_toArray, List.set_cons_zero, List.set_cons_succ]
              refine wpAny_take (i := 8) (v := ?vb88x4) rfl (by kernel_rfl) (by kernel_rfl) (by kernel_rfl) (fun _ _ _ h => h) (Or.inl ⟨by rfl, ?yb88x4⟩) ?rb88x4
              case yb88x4 => (intro w'; (try go_simp); (try with_reducible rfl))
              try simp only [Act.put, List.getElem_toArray, List.getElem_cons_zero, List.getElem_cons_succ, List.setIfInBounds_toArray, List.set_cons_zero, List.set_cons_succ]
              refine wpAny_take (i := 9) (v := ?vb89x4) rfl (by kernel_rfl) (by kernel_rfl) (by kernel_rfl) (fun _ _ _ h => h) (Or.inl ⟨by rfl, ?yb89x4⟩) ?rb89x4
              case yb89x4 => (intro w'; (try go_simp); (try with_reducible rfl))
              try simp only [Act.put, List.getElem_toArray, List.getElem_cons_zero, List.getElem_cons_succ, List.setIfInBounds_toArray, List.set_cons_zero, List.set_cons_succ]
              refine wpAny_take (i := 10) (v := ?vb810x4) rfl (by kernel_rfl) (by kernel_rfl) (by kernel_rfl) (fun _ _ _ h => h) (Or.inl ⟨by rfl, ?yb810x4⟩) ?rb810x4
              case yb810x4 => (intro w'; (try go_simp); (try with_reducible rfl))
              try simp only [Act.put, List.getElem_toArray, List.getElem_cons_zero, List.getElem_cons_succ, List.setIfInBounds_toArray, List.set_cons_zero, List.set_cons_succ]
              refine wpAny_ready (rs := [11]) (by kernel_rfl) (by simp) ?_
              refine AllReady.cons rfl (fun K hK => ?_) AllReady.nil
              go_simp
              refine hK _ _ ?_
              clear hK K
              try simp only [Act.put, List.getElem_toArray, List.getElem_cons_zero, List.getElem_cons_succ, List.setIfInBounds_toArray, List.set_cons_zero, List.set_cons_succ]
              refine wpAny_done (by kernel_rfl) ?_ _
              simp only [OnlyNormal]
              have hW : Wrote W (W.setCell ⟨w.heap.size, x.1.1 * 2 + 1, none⟩ (.int .i64 x.1.2.2.rc.seq)) w.heap.size (x.1.1 * 2) (Spn (lowOf sp x.1.2.2.rc.seq, max sp.2 x.1.2.2.rc.seq)) := by
                rw [hlo.out, hmv.out]
                exact (wrote_one l1 (.int .i64 x.1.2.2.rc.seq)).less l0
              have hBL : Below w.heap.size W (W.setCell ⟨w.heap.size, x.1.1 * 2 + 1, none⟩ (.int .i64 x.1.2.2.rc.seq)).drew.drew := (((Below.refl w.heap.size W).setCell (p := ⟨w.heap.size, x.1.1 * 2 + 1, none⟩) (Nat.le_refl _) (.int .i64 x.1.2.2.rc.seq)).drew).drew
              have hBX : Boxed (W.setCell ⟨w.heap.size, x.1.1 * 2 + 1, none⟩ (.int .i64 x.1.2.2.rc.seq)).drew.drew (w.heap.size + 1) 94 (.slice (some ⟨w.heap.size, 0, none⟩) 4 4) := (hW.block (w.heap.size + 1) (by omega)).trans bV1
              have hRW : Row (W.setCell ⟨w.heap.size, x.1.1 * 2 + 1, none⟩ (.int .i64 x.1.2.2.rc.seq)).drew.drew (some ⟨w.heap.size, 0, none⟩) (spv (spOf ((pre ++ [x]).map Subtype.val))) := (HROW.out _ hW).drew.drew
              clear hW HROW
              gi_wp2
              exact ⟨(((KeepsOthers.setCell _ _ _).trans (KeepsOthers.drew _)).trans (KeepsOthers.drew _)).from _, hBL, ⟨hBX, hRW⟩, hB1.trans hBL⟩
            · go_simp
              refine hK _ _ ?_
              clear hK K
              try simp only [Act.put, List.getElem_toArray, List.getElem_cons_zero, List.getElem_cons_succ, List.setIfInBounds_toArray, List.set_cons_zero, List.set_cons_succ]
              refine wpAny_ready (rs := [4]) (by kernel_rfl) (by simp) ?_
              refine AllReady.cons rfl (fun K hK => ?_) AllReady.nil
              go_simp
              refine hK _ _ ?_
              clear hK K
              try simp only [Act.put, List.getElem_toArray, List.getElem_cons_zero, List.getElem_cons_succ, List.setIfInBounds_toArray, List.set_cons_zero, List.set_cons_succ]
              refine wpAny_take (i := 8) (v := ?vb88x7) rfl (by kernel_rfl) (by kernel_rfl) (by kernel_rfl) (fun _ _ _ h => h) (Or.inl ⟨by rfl, ?yb88x7⟩) ?rb88x7
              case yb88x7 => (intro w'; (try go_simp); (try with_reducible rfl))
              try simp only [Act.put, List.getElem_toArray, List.getElem_cons_zero, List.getElem_cons_succ, List.setIfInBounds_toArray, List.set_cons_zero, List.set_cons_succ]
              refine wpAny_take (i := 9) (v := ?vb89x7) rfl (by kernel_rfl) (by kernel_rfl) (by kernel_rfl) (fun _ _ _ h => h) (Or.inl ⟨by rfl, ?yb89x7⟩) ?rb89x7
              case yb89x7 => (intro w'; (try go_simp); (try with_reducible rfl))
              try simp only [Act.put, List.getElem_toArray, List.getElem_cons_zero, List.getElem_cons_succ, List.setIfInBounds_toArray, List.set_cons_zero, List.set_cons_succ]
              refine wpAny_take (i := 10) (v := ?vb810x7) rfl (by kernel_rfl) (by kernel_rfl) (by kernel_rfl) (fun _ _ _ h => h) (Or.inl ⟨by rfl, ?yb810x7⟩) ?rb810x7
              case yb810x7 => (intro w'; (try go_simp); (try with_reducible rfl))
              try simp only [Act.put, List.getElem_toArray, List.getElem_cons_zero, List.getElem_cons_succ, List.setIfInBounds_toArray, List.set_cons_zero, List.set_cons_succ]
              refine wpAny_ready (rs := [11]) (by kernel_rfl) (by simp) ?_
              refine AllReady.cons rfl (fun K hK => ?_) AllReady.nil
              go_simp
              refine hK _ _ ?_
              clear hK K
              try simp only [Act.put, List.getElem_toArray, List.getElem_cons_zero, List.getElem_cons_succ, List.setIfInBounds_toArray, List.set_cons_zero, List.set_cons_succ]
              refine wpAny_done (by kernel_rfl) ?_ _
              simp only [OnlyNormal]
              have hW : Wrote W (W.setCell ⟨w.heap.size, x.1.1 * 2 + 1, none⟩ (.int .i64 x.1.2.2.rc.seq)) w.heap.size (x.1.1 * 2) (Spn (lowOf sp x.1.2.2.rc.seq, max sp.2 x.1.2.2.rc.seq)) := by
                rw [hlo.out, hmv.out]
                exact (wrote_one l1 (.int .i64 x.1.2.2.rc.seq)).less l0
              have hBL : Below w.heap.size W (W.setCell ⟨w.heap.size, x.1.1 * 2 + 1, none⟩ (.int .i64 x.1.2.2.rc.seq)).drew.drew := (((Below.refl w.heap.size W).setCell (p := ⟨w.heap.size, x.1.1 * 2 + 1, none⟩) (Nat.le_refl _) (.int .i64 x.1.2.2.rc.seq)).drew).drew
              have hBX : Boxed (W.setCell ⟨w.heap.size, x.1.1 * 2 + 1, none⟩ (.int .i64 x.1.2.2.rc.seq)).drew.drew (w.heap.size + 1) 94 (.slice (some ⟨w.heap.size, 0, none⟩) 4 4) := (hW.block (w.heap.size + 1) (by omega)).trans bV1
              have hRW : Row (W.setCell ⟨w.heap.size, x.1.1 * 2 + 1, none⟩ (.int .i64 x.1.2.2.rc.seq)).drew.drew (some ⟨w.heap.size, 0, none⟩) (spv (spOf ((pre ++ [x]).map Subtype.val))) := (HROW.out _ hW).drew.drew
              clear hW HROW
              gi_wp2
              exact ⟨(((KeepsOthers.setCell _ _ _).trans (KeepsOthers.drew _)).trans (KeepsOthers.drew _)).from _, hBL, ⟨hBX, hRW⟩, hB1.trans hBL⟩
          · have hmv : Hid (max sp.2 x.1.2.2.rc.seq = sp.2) := by unfold Hid; omega
            refine region_round (by kernel_rfl) (by kernel_rfl) ?_
            refine wpAny_take (i := 0) (v := ?vb90) rfl (by kernel_rfl) (by kernel_rfl) (by kernel_rfl) (fun _ _ _ h => h) (Or.inl ⟨by rfl, ?yb90⟩) ?rb90
            case yb90 => (intro w'; (try go_simp); (try with_reducible rfl))
            try simp only [Act.put, List.getElem_toArray, List.getElem_cons_zero, List.getElem_cons_succ, List.setIfInBounds_toArray, List.set_cons_zero, List.set_cons_succ]
            refine wpAny_take (i := 1) (v := ?vb91) rfl (by kernel_rfl) (by kernel_rfl) (by kernel_rfl) (fun _ _ _ h => h) (Or.inl ⟨by rfl, ?yb91⟩) ?rb91
            case yb91 => (intro w'; (try go_simp); (try with_reducible rfl))
            try simp only [Act.put, List.getElem_toArray, List.getElem_cons_zero, List.getElem_cons_succ, List.setIfInBounds_toArray, List.set_cons_zero, List.set_cons_succ]
            refine wpAny_take (i := 2) (v := ?vb92) rfl (by kernel_rfl) (by kernel_rfl) (by kernel_rfl) (fun _ _ _ h => h) (Or.inl ⟨by rfl, ?yb92⟩) ?rb92
            case yb92 => (intro w'; (try go_simp); (try with_reducible rfl))
            try simp only [Act.put, List.getElem_toArray, List.getElem_cons_zero, List.getElem_cons_succ, List.setIfInBounds_toArray, List.set_cons_zero, List.set_cons_succ]
            refine wpAny_take (i := 3) (v := ?vb93) rfl (by kernel_rfl) (by kernel_rfl) (by kernel_rfl) (fun _ _ _ h => h) (Or.inl ⟨by rfl, ?yb93⟩) ?rb93
            case yb93 => (intro w'; (try go_simp); (try with_reducible rfl))
            try simp only [Act.put, List.getElem_toArray, List.getElem_cons_zero, List.getElem_cons_succ, List.setIfInBounds_toArray, List.set_cons_zero, List.set_cons_succ]
            refine wpAny_take (i := 5) (v := ?vb95) rfl (by kernel_rfl) (by kernel_rfl) (by kernel_rfl) (fun _ _ _ h => h) (Or.inl ⟨by rfl, ?yb95⟩) ?rb95
            case yb95 => (intro w'; (try go_simp); (try with_reducible rfl))
            try simp only [Act.put, List.getElem_toArray, List.getElem_cons_zero, List.getElem_cons_succ, List.setIfInBounds_toArray, List.set_cons_zero, List.set_cons_succ]
            refine wpAny_take (i := 6) (v := ?vb96) rfl (by kernel_rfl) (by kernel_rfl) (by kernel_rfl) (fun _ _ _ h => h) (Or.inl ⟨by rfl, ?yb96⟩) ?rb96
            case yb96 => (intro w'; (try go_simp); (try with_reducible rfl))
            try simp only [Act.put, List.getElem_toArray, List.getElem_cons_zero, List.getElem_cons_succ, List.setIfInBounds_toArray, List.set_cons_zero, List.set_cons_succ]
            refine wpAny_ready (rs := [4, 7]) (by kernel_rfl) (by simp) ?_
            refine AllReady.cons rfl (fun K hK => ?_) (AllReady.cons rfl (fun K hK => ?_) AllReady.nil)
            · go_simp
              refine hK _ _ ?_
              clear hK K
              try simp only [Act.put, List.getElem_toArray, List.getElem_cons_zero, List.getElem_cons_succ, List.setIfInBounds_toArray, List.set_cons_zero, List.set_cons_succ]
              refine wpAny_ready (rs := [7]) (by kernel_rfl) (by simp) ?_
              refine AllReady.cons rfl (fun K hK => ?_) AllReady.nil
              go_simp
              refine hK _ _ ?_
              clear hK K
              try simp only [Act.put, List.getElem_toArray, List.getElem_cons_zero, List.getElem_cons_succ, List.setIfInBounds_toArray, List.set_cons_zero, List.set_cons_succ]
              refine wpAny_take (i := 8) (v := ?vb98x4) rfl (by kernel_rfl) (by kernel_rfl) (by kernel_rfl) (fun _ _ _ h => h) (Or.inl ⟨by rfl, ?yb98x4⟩) ?rb98x4
              case yb98x4 => (intro w'; (try go_simp); (try with_reducible rfl))
              try simp only [Act.put, List.getElem_toArray, List.getElem_cons_zero, List.getElem_cons_succ, List.setIfInBounds_toArray, List.set_cons_zero, List.set_cons_succ]
              refine wpAny_take (i := 9) (v := ?vb99x4) rfl (by kernel_rfl) (by kernel_rfl) (by kernel_rfl) (fun _ _ _ h => h) (Or.inl ⟨by rfl, ?yb99x4⟩) ?rb99x4
              case yb99x4 => (intro w'; (try go_simp); (try with_reducible rfl))
              try simp only [Act.put, List.getElem_toArray, List.getElem_cons_zero, List.getElem_cons_succ, List.setIfInBounds_toArray, List.set_cons_zero, List.set_cons_succ]
              refine wpAny_take (i := 10) (v := ?vb910x4) rfl (by kernel_rfl) (by kernel_rfl) (by kernel_rfl) (fun _ _ _ h => h) (Or.inl ⟨by rfl, ?yb910x4⟩) ?rb910x4
              case yb910x4 => (intro w'; (try go_simp); (try with_reducible rfl))
              try simp only [Act.put, List.getElem_toArray, List.getElem_cons_zero, List.getElem_cons_succ, List.setIfInBounds_toArray, List.set_cons_zero, List.set_cons_succ]
              refine wpAny_ready (rs := [11]) (by kernel_rfl) (by simp) ?_
              refine AllReady.cons rfl (fun K hK => ?_) AllReady.nil
              go_simp
              refine hK _ _ ?_
              clear hK K
              try simp only [Act.put, List.getElem_toArray, List.getElem_cons_zero, List.getElem_cons_succ, List.setIfInBounds_toArray, List.set_cons_zero, List.set_cons_succ]
              refine wpAny_done (by kernel_rfl) ?_ _
              simp only [OnlyNormal]
              have hW : Wrote W (W.setCell ⟨w.heap.size, x.1.1 * 2 + 1, none⟩ (.int .i64 sp.2)) w.heap.size (x.1.1 * 2) (Spn (lowOf sp x.1.2.2.rc.seq, max sp.2 x.1.2.2.rc.seq)) := by
                rw [hlo.out, hmv.out]
                exact (wrote_one l1 (.int .i64 sp.2)).less l0
              have hBL : Below w.heap.size W (W.setCell ⟨w.heap.size, x.1.1 * 2 + 1, none⟩ (.int .i64 sp.2)).drew.drew := (((Below.refl w.heap.size W).setCell (p := ⟨w.heap.size, x.1.1 * 2 + 1, none⟩) (Nat.le_refl _) (.int .i64 sp.2)).drew).drew
              have hBX : Boxed (W.setCell ⟨w.heap.size, x.1.1 * 2 + 1, none⟩ (.int .i64 sp.2)).drew.drew (w.heap.size + 1) 94 (.slice (some ⟨w.heap.size, 0, none⟩) 4 4) := (hW.block (w.heap.size + 1) (by omega)).trans bV1
              have hRW : Row (W.setCell ⟨w.heap.size, x.1.1 * 2 + 1, none⟩ (.int .i64 sp.2)).drew.drew (some ⟨w.heap.size, 0, none⟩) (spv (spOf ((pre ++ [x]).map Subtype.val))) := (HROW.out _ hW).drew.drew
              clear hW HROW
              gi_wp2
              exact ⟨(((KeepsOthers.setCell _ _ _).trans (KeepsOthers.drew _)).trans (KeepsOthers.drew _)).from _, hBL, ⟨hBX, hRW⟩, hB1.trans hBL⟩
            · go_simp
              refine hK _ _ ?_
              clear hK K
              try simp only [Act.put, List.getElem_toArray, List.getElem_cons_zero, List.getElem_cons_succ, List.setIfInBounds_toArray, List.set_cons_zero, List.set_cons_succ]
              refine wpAny_ready (rs := [4]) (by kernel_rfl) (by simp) ?_
              refine AllReady.cons rfl (fun K hK => ?_) AllReady.nil
              go_simp
              refine hK _ _ ?_
              clear hK K
              try simp only [Act.put, List.getElem_toArray, List.getElem_cons_zero, List.getElem_cons_succ, List.setIfInBounds_toArray, List.set_cons_zero, List.set_cons_succ]
              refine wpAny_take (i := 8) (v := ?vb98x7) rfl (by kernel_rfl) (by kernel_rfl) (by kernel_rfl) (fun _ _ _ h => h) (Or.inl ⟨by rfl, ?yb98x7⟩) ?rb98x7
              case yb98x7 => (intro w'; (try go_simp); (try with_reducible rfl))
              try simp only [Act.put, List.getElem_toArray, List.getElem_cons_zero, List.getElem_cons_succ, List.setIfInBounds_toArray, List.set_cons_zero, List.set_cons_succ]
              refine wpAny_take (i := 9) (v := ?vb99x7) rfl (by kernel_rfl) (by kernel_rfl) (by kernel_rfl) (fun _ _ _ h => h) (Or.inl ⟨by rfl, ?yb99x7⟩) ?rb99x7
              case yb99x7 => (intro w'; (try go_simp); (try with_reducible rfl))
              try simp only [Act.put, List.getElem_toArray, List.getElem_cons_zero, List.getElem_cons_succ, List.setIfInBounds_toArray, List.set_cons_zero, List.set_cons_succ]
              refine wpAny_take (i := 10) (v := ?vb910x7) rfl (by kernel_rfl) (by kernel_rfl) (by kernel_rfl) (fun _ _ _ h => h) (Or.inl ⟨by rfl, ?yb910x7⟩) ?rb910x7
              case yb910x7 => (intro w'; (try go_simp); (try with_reducible rfl))
              try simp only [Act.put, List.getElem_toArray, List.getElem_cons_zero, List.getElem_cons_succ, List.setIfInBounds_toArray, List.set_cons_zero, List.set_cons_succ]
              refine wpAny_ready (rs := [11]) (by kernel_rfl) (by simp) ?_
              refine AllReady.cons rfl (fun K hK => ?_) AllReady.nil
              go_simp
              refine hK _ _ ?_
              clear hK K
              try simp only [Act.put, List.getElem_toArray, List.getElem_cons_zero, List.getElem_cons_succ, List.setIfInBounds_toArray, List.set_cons_zero, List.set_cons_succ]
              refine wpAny_done (by kernel_rfl) ?_ _
              simp only [OnlyNormal]
              have hW : Wrote W (W.setCell ⟨w.heap.size, x.1.1 * 2 + 1, none⟩ (.int .i64 sp.2)) w.heap.size (x.1.1 * 2) (Spn (lowOf sp x.1.2.2.rc.seq, max sp.2 x.1.2.2.rc.seq)) := by
                rw [hlo.out, hmv.out]
                exact (wrote_one l1 (.int .i64 sp.2)).less l0
              have hBL : Below w.heap.size W (W.setCell ⟨w.heap.size, x.1.1 * 2 + 1, none⟩ (.int .i64 sp.2)).drew.drew := (((Below.refl w.heap.size W).setCell (p := ⟨w.heap.size, x.1.1 * 2 + 1, none⟩) (Nat.le_refl _) (.int .i64 sp.2)).drew).drew
              have hBX : Boxed (W.setCell ⟨w.heap.size, x.1.1 * 2 + 1, none⟩ (.int .i64 sp.2)).drew.drew (w.heap.size + 1) 94 (.slice (some ⟨w.heap.size, 0, none⟩) 4 4) := (hW.block (w.heap.size + 1) (by omega)).trans bV1
              have hRW : Row (W.setCell ⟨w.heap.size, x.1.1 * 2 + 1, none⟩ (.int .i64 sp.2)).drew.drew (some ⟨w.heap.size, 0, none⟩) (spv (spOf ((pre ++ [x]).map Subtype.val))) := (HROW.out _ hW).drew.drew
              clear hW HROW
              gi_wp2
              exact ⟨(((KeepsOthers.setCell _ _ _).trans (KeepsOthers.drew _)).trans (KeepsOthers.drew _)).from _, hBL, ⟨hBX, hRW⟩, hB1.trans hBL⟩
    · have h1' : (x.1.2.2.state != 1) = true := by simpa using h1
      gi_wp2
      exact ⟨KeepsFrom.refl _ _, Below.refl _ _, ⟨bV1, by rw [hst.out]; unfold spStep; rw [if_neg h1]; exact hR1⟩, hB1⟩
  case done =>
    rintro D ys W hD hys ⟨⟨bV1, hR1⟩, hB1⟩ hK
    have cV := bV1.cell
    gi_wp2
    refine ⟨by simp, .inl ⟨_, _, rfl, run_takeDeferred hK, ?_⟩⟩
    refine ⟨_, results_tmp rfl _ _ _, w.heap.size, rfl, Nat.le_refl _, ?_, hB1.trans (belowK_b (w := w) (Nat.le_refl _) W D _ _ (by omega) hK rfl rfl)⟩
    rw [← hys]
    exact row_own _ _ w.heap.size () W _ (some D) hR1 (grownBy_putObj' W D _) (fun r e => by cases e; exact ⟨by omega, _, hK, rfl⟩)
  case stop =>
    rintro D c pre W _ _ h _
    exact h.elim
end Go.Proofs.YtohkoogmbfaceaaGreat
namespace Go.Proofs.YtohkoogmbfaceaaGreat
set_option linter.unusedVariables false
set_option linter.unusedSimpArgs false
open Go.RowKit Go.Maps
set_option maxHeartbeats 400000
theorem impl_freePages (b : Bk) (A : Option Addr) (n c : Nat) (w : World) (hn : n = b.pages.length) (hl : b.pages.length < 1000000000000) (hR : Row w A (pgs b.pages)) :
    Calls Tryz.prog 80 #[.agg #[.slice A n c, .int .i64 b.worn]] w fun e w' => e = .returned (.int .i64 (clean b)) ∧ Below w.heap.size w w' := by
  subst hn
  obtain ⟨ps, n⟩ := b
  dsimp only at *
  have hB0 : Below w.heap.size w (w.alloc (.cells #[.slice A ps.length c, .int .i64 n] 59)) := by (repeat (first | (with_reducible exact Below.refl _ _) | (with_reducible assumption) | (refine Below.setCell ?_ (by first | omega | exact hB.size | exact hb.size | (have h := hB.size; simp; omega) | (have h := hb.size; simp; omega) | (simp; omega) | simp) _) | (refine Below.alloc ?_ (by first | omega | exact hB.size | exact hb.size | (have h := hB.size; simp; omega) | (have h := hb.size; simp; omega) | (simp; omega) | simp) _) | (refine Below.drew ?_)))
  have hT : Hid ((clean ⟨ps, n⟩ : Int) = 0 + (ps.drop 0).countP isClean) := by unfold Hid clean; simp
  go_enter Tryz.func80, Tryz.ntmps80
  go_wp2
  go_loopw [3, 9] (fun q i wr => ∃ (k m : Nat), k ≤ ps.length ∧ i = .int .i64 k ∧ q = .int .i64 m ∧ m ≤ k ∧ Below w.heap.size w wr ∧ Hid ((clean ⟨ps, n⟩ : Int) = m + (ps.drop k).countP isClean)) (fun _ i _ => ps.length - (intOf i).toNat)
  case atStart => exact ⟨0, 0, by omega, rfl, rfl, by omega, hB0, hT⟩
  case round =>
    clear hT hB0
    obtain ⟨k, m, hk, rfl, rfl, hm, hB, hT⟩ := hrel
    by_cases hlt : k < ps.length
    · obtain ⟨p, hp⟩ := get_some hlt
      obtain ⟨bk, o, rfl⟩ := hR.addr (pgs_ne (by rintro rfl; simp at hlt))
      obtain ⟨c0, c1, c2, c3, c4⟩ := (hR.below hB (Nat.le_refl _)).pg hp
      have hd := Lib.hid (drop_cons hp)
      have hk1 : (k : Int) < ps.length := by omega
      have hB2 : ∀ o, Below w.heap.size w (wr.alloc o) := fun o => hB.alloc hB.size o
      clear hp
      by_cases h0 : p.state = 0
      · have hi : Hid (isClean p = true) := by unfold Hid isClean; simp [h0]
        rw [h0] at c0
        clear h0
        go_wp2
        go_roundw
        case rel => exact ⟨k + 1, m + 1, by omega, by go_num, by go_num, by omega, hB2 _, by rw [Hid, hT.out, hd.out, List.countP_cons, hi.out]; simp; omega⟩
        case measure => simp [intOf]; omega
      · have hi : Hid (isClean p = false) := by unfold Hid isClean; simp [h0]
        go_wp2
        go_roundw
        case rel => exact ⟨k + 1, m, by omega, by go_num, rfl, by omega, hB2 _, by rw [Hid, hT.out, hd.out, List.countP_cons, hi.out]; simp⟩
        case measure => simp [intOf]; omega
    · obtain rfl : k = ps.length := by omega
      go_wp2
      go_ret
      exact ⟨ret_int (by rw [hT.out, List.drop_of_length_le (Nat.le_refl _)]; simp), hB⟩
set_option maxHeartbeats 2000000 in
theorem impl_seqUsed (f : List Bk) (s : Int) (A : Option Addr) (n c : Nat) (w : World) (hn : n = f.length) (hl : f.length < 1000000000000) (hp : ∀ b ∈ f, b.pages.length < 1000000000000) (hF : Fl w A f) :
    Calls Tryz.prog 102 #[.slice A n c, .int .i64 s] w fun e w' => e = .returned (.bool (seqIn f s)) ∧ Below w.heap.size w w' := by
  subst hn
  obtain ⟨hs, hBk⟩ := hF
  have HP := Lib.hid hp
  have hT : Hid (seqIn f s = (f.drop 0).any (bkHas s)) := rfl
  clear hp
  go_enter Tryz.func102, Tryz.ntmps102
  go_wp2
  go_loopw [11] (fun i wr => ∃ (k : Nat), k ≤ f.length ∧ i = .int .i64 k ∧ Below w.heap.size w wr ∧ Hid (seqIn f s = (f.drop k).any (bkHas s))) (fun i _ => f.length - (intOf i).toNat)
  case atStart => exact ⟨0, by omega, rfl, Below.refl _ _, hT⟩
  case round =>
    clear hT
    obtain ⟨k, hk, rfl, hB, hT⟩ := hrel
    by_cases hlt : k < f.length
    · obtain ⟨B, hBb⟩ := get_some hlt
      obtain ⟨g, o, rfl⟩ := hBk.addr (by rintro rfl; simp at hlt)
      obtain ⟨⟨Ap, cp⟩, _, z0, z1, _, _, hR, _⟩ := (hBk.below hB (Nat.le_refl _)).at_ hBb
      have hd := Lib.hid (drop_cons hBb)
      have hpl := HP.out B (List.mem_of_getElem? hBb)
      have hk1 : (k : Int) < f.length := by omega
      obtain ⟨ps, n⟩ := B
      dsimp only at *
      have hB2 : Below w.heap.size w (wr.alloc (.cells #[.slice Ap ps.length cp, .int .i64 n] 59)) := hB.alloc hB.size _
      have hR2 := hR.alloc (.cells #[.slice Ap ps.length cp, .int .i64 n] 59)
      have hT0 : Hid (seqIn f s = ((ps.drop 0).any (hasSeq s) || (f.drop (k + 1)).any (bkHas s))) := by rw [Hid, hT.out, hd.out]; rfl
      clear hBb hT hd
      go_wp2
      go_loopw [18] (fun j wl => ∃ (m : Nat), m ≤ ps.length ∧ j = .int .i64 m ∧ Below w.heap.size w wl ∧ Row wl Ap (pgs ps) ∧ Hid (seqIn f s = ((ps.drop m).any (hasSeq s) || (f.drop (k + 1)).any (bkHas s)))) (fun j _ => ps.length - (intOf j).toNat)
      case atStart => exact ⟨0, by omega, rfl, hB2, hR2, hT0⟩
      case round =>
        clear hT0 hB2 hR2
        obtain ⟨m, hm, rfl, hBl, hRl, hT⟩ := hrel
        by_cases hltm : m < ps.length
        · obtain ⟨p, hq⟩ := get_some hltm
          obtain ⟨pb, po, rfl⟩ := hRl.addr (pgs_ne (by rintro rfl; simp at hltm))
          obtain ⟨c0, c1, c2, c3, c4⟩ := hRl.pg hq
          have hd := Lib.hid (drop_cons hq)
          have hm1 : (m : Int) < ps.length := by omega
          have hT1 : Hid (seqIn f s = (hasSeq s p || ((ps.drop (m + 1)).any (hasSeq s) || (f.drop (k + 1)).any (bkHas s)))) := by rw [Hid, hT.out, hd.out, List.any_cons, Bool.or_assoc]
          have hB3 := fun (o : Obj) => hBl.alloc hBl.size o
          have hR3 := fun (o : Obj) => hRl.alloc o
          clear hq hT hd
          by_cases h1 : p.state = 1
          · by_cases h2 : p.rc.seq = s
            · have hi : Hid (hasSeq s p = true) := by unfold Hid hasSeq; simp [h1, h2]
              rw [h1] at c0
              rw [h2] at c2
              clear h1 h2
              go_wp2
              go_ret
              exact ⟨ret_bool (by rw [hT1.out, hi.out]; rfl), hB3 _⟩
            · have hi : Hid (hasSeq s p = false) := by unfold Hid hasSeq; simp [h1, h2]
              rw [h1] at c0
              have h2' : (p.rc.seq == s) = false := by simpa using h2
              clear h1
              go_wp2
              go_roundw
              case rel => exact ⟨m + 1, by omega, by go_num, hB3 _, hR3 _, by rw [Hid, hT1.out, hi.out]; rfl⟩
              case measure => simp [intOf]; omega
          · have hi : Hid (hasSeq s p = false) := by unfold Hid hasSeq; simp [h1]
            have h1' : (p.state == 1) = false := by simpa using h1
            go_wp2
            go_roundw
            case rel => exact ⟨m + 1, by omega, by go_num, hB3 _, hR3 _, by rw [Hid, hT1.out, hi.out]; rfl⟩
            case measure => simp [intOf]; omega
        · obtain rfl : m = ps.length := by omega
          go_wp2
          go_roundw
          case rel => exact ⟨k + 1, by omega, by go_num, hBl, by rw [Hid, hT.out, List.drop_of_length_le (Nat.le_refl _)]; rfl⟩
          case measure => simp [intOf]; omega
    · obtain rfl : k = f.length := by omega
      go_wp2
      go_ret
      exact ⟨ret_bool (by rw [hT.out, List.drop_of_length_le (Nat.le_refl _)]; rfl), hB⟩
/-- what FlashWrite answers -/
def flashWrite (f : List Bk) (block : Int) (r : Rc) (torn : Bool) : List Bk × Bool :=
  if flashOk f = false ∨ blockB block = false ∨ recOk r = false then ([], false) else writeR f block.toNat r torn
theorem clean_le4 {b : Bk} (h : b.pages.length = 4) : clean b ≤ 4 := by rw [← h]; exact clean_le b
end Go.Proofs.YtohkoogmbfaceaaGreat
namespace Go.Proofs.YtohkoogmbfaceaaGreat
set_option linter.unusedVariables false
set_option linter.unusedSimpArgs false
open Go.RowKit Go.Maps
set_option maxHeartbeats 400000
def partly (b : Bk) : Bool := decide (0 < clean b) && decide (clean b < 4)
theorem impl_partlyUsed (b : Bk) (A : Option Addr) (n c : Nat) (w : World) (hn : n = b.pages.length) (hl : b.pages.length < 1000000000000) (hR : Row w A (pgs b.pages)) :
    Calls Tryz.prog 61 #[.agg #[.slice A n c, .int .i64 b.worn]] w fun e w' => e = .returned (.bool (partly b)) ∧ Below w.heap.size w w' := by
  subst hn
  have hB0 : Below w.heap.size w (w.alloc (.cells #[.slice A b.pages.length c, .int .i64 b.worn] 59)) := by (repeat (first | (with_reducible exact Below.refl _ _) | (with_reducible assumption) | (refine Below.setCell ?_ (by first | omega | exact hB.size | exact hb.size | (have h := hB.size; simp; omega) | (have h := hb.size; simp; omega) | (simp; omega) | simp) _) | (refine Below.alloc ?_ (by first | omega | exact hB.size | exact hb.size | (have h := hB.size; simp; omega) | (have h := hb.size; simp; omega) | (simp; omega) | simp) _) | (refine Below.drew ?_)))
  have hfin : Hid (partly b = (decide (0 < clean b) && decide (clean b < 4))) := rfl
  go_enter Tryz.func61, Tryz.ntmps61
  go_wp2_with fail
  refine (impl_freePages b A _ c _ rfl hl (hR.alloc _)).mono ?_
  rintro e w1 ⟨rfl, hb⟩
  have hB1 := hB0.trans (hb.mono (by simp))
  generalize clean b = n at *
  clear hb
  by_cases h0 : 0 < n
  · have h0' : (0 : Int) < n := by omega
    by_cases h4 : n < 4
    · have h4' : (n : Int) < 4 := by omega
      go_wp2
      go_ret
      exact ⟨ret_bool (by rw [hfin.out]; first | (simp [h0, h4]; done) | (simp [h0, h4]; omega)), hB1⟩
    · have h4' : ¬ (n : Int) < 4 := by omega
      go_wp2
      go_ret
      exact ⟨ret_bool (by rw [hfin.out]; first | (simp [h0, h4]; done) | (simp [h0, h4]; omega)), hB1⟩
  · have h0' : ¬ (0 : Int) < n := by omega
    go_wp2
    go_ret
    exact ⟨ret_bool (by rw [hfin.out]; simp [h0]), hB1⟩
end Go.Proofs.YtohkoogmbfaceaaGreat
namespace Go.Proofs.YtohkoogmbfaceaaGreat
set_option linter.unusedVariables false
set_option linter.unusedSimpArgs false
def spClash (a b : Span) : Bool := decide (0 < a.2) && (decide (0 < b.2) && (decide (b.1 ≤ a.2) && decide (a.1 ≤ b.2)))
def ordGo (ss : List Span) : Nat → Int → List Span → Option Int
  | _, n, [] => some n
  | i, n, a :: r => if (ss.take i).any (spClash a) = true then none else ordGo ss (i + 1) (max n a.2) r
def partOrd (ss : List Span) (n : Int) : Nat → Nat → List Bk → Bool
  | _, c, [] => decide (c ≤ 1)
  | i, c, b :: r => if partly b = true then (if 0 < (ss.getD i (0, 0)).2 ∧ (ss.getD i (0, 0)).2 < n then false else partOrd ss n (i + 1) (c + 1) r) else partOrd ss n (i + 1) c r
def ordI (ss : List Span) (f : List Bk) : Bool := match ordGo ss 0 0 ss with
  | none => false
  | some n => partOrd ss n 0 0 f
def findOrderI (f : List Bk) : Bool := if flashOk f = true then ordI (spOf (allFrom 0 f)) f else false
end Go.Proofs.YtohkoogmbfaceaaGreat
namespace Go.Proofs.YtohkoogmbfaceaaGreat
set_option linter.unusedVariables false
set_option linter.unusedSimpArgs false
open Go.RowKit Go.Maps
set_option maxHeartbeats 400000
end Go.Proofs.YtohkoogmbfaceaaGreat
namespace Go.Proofs.YtohkoogmbfaceaaGreat
set_option linter.unusedVariables false
set_option linter.unusedSimpArgs false
open Go.RowKit
theorem made_get (z : Array Value) (n j : Nat) (hz : 0 < z.size) (hj : j < n) : (madeCells z n).toList[j]? = z.toList[j % z.size]? := by
  have hm : j % z.size < z.size := Nat.mod_lt _ hz
  simp [madeCells, hj, hm]
theorem flat_rep {α : Type} (g : α → List Value) (x : α) (m : Nat) (hm : (g x).length = m) (h0 : 0 < m) (n : Nat) : ∀ j : Nat, j < n * m → ((List.replicate n x).flatMap g)[j]? = (g x)[j % m]? := by
  induction n with
  | zero => intro j h; omega
  | succ n ih =>
    intro j h
    rw [Nat.succ_mul] at h
    simp only [List.replicate_succ, List.flatMap_cons]
    by_cases hj : j < m
    · rw [List.getElem?_append_left (by omega), Nat.mod_eq_of_lt hj]
    · have h1 := ih (j - m) (by omega)
      rw [List.getElem?_append_right (by omega), hm, h1, Nat.mod_eq_sub_mod (by omega : j ≥ m)]
theorem made_list {α : Type} (g : α → List Value) (x : α) (z : Array Value) (m : Nat) (hm : z.size = m) (hz : z.toList = g x) (h0 : 0 < z.size) (n : Nat) : (madeCells z (n * m)).toList = (List.replicate n x).flatMap g := by
  subst hm
  have hl : (g x).length = z.size := by rw [← hz]; simp
  refine List.ext_getElem? fun j => ?_
  by_cases hj : j < n * z.size
  · rw [made_get z _ j h0 hj, flat_rep g x z.size hl h0 n j hj, hz]
  · have e : ∀ k : Nat, ((List.replicate k x).flatMap g).length = k * z.size := by
      intro k
      induction k with
      | zero => simp
      | succ k ih => rw [List.replicate_succ, List.flatMap_cons, List.length_append, ih, hl, Nat.succ_mul]; omega
    rw [List.getElem?_eq_none (by rw [Array.length_toList, size_madeCells]; omega), List.getElem?_eq_none (by rw [e]; omega)]
theorem run_make_n {P : Program} (t e : TypeId) (i : TypeInfo) (z : Value) (size bytes : Nat) (ht : P.underlying t = some (.slice e)) (hi : P.info? e = some i) (hz : i.zero = some z) (hs : i.size = size) (hb : i.bytes = bytes) (n : Nat) (hn : n * bytes ≤ 281474976710656) (h63 : n ≤ 9223372036854775807) (w : World) :
    (Instr.makeSlice t (.int .i64 (n : Int)) (.int .i64 (n : Int))).run P w = .ok (.slice (some ⟨w.heap.size, 0, none⟩) n n) (w.alloc (.cells (madeCells z.cells (n * size)) e)) := by
  subst hs; subst hb
  have h : (i.bytes : Int) * (n : Int) ≤ 281474976710656 := by
    have h' : ((i.bytes * n : Nat) : Int) ≤ 281474976710656 := by rw [Nat.mul_comm]; omega
    rwa [Int.natCast_mul] at h'
  have hr := run_make (P := P) w t e i z ht hi hz .i64 .i64 n n (by omega) (by omega) h (by omega)
  simp only [Int.toNat_natCast] at hr
  exact hr
/-- cells that can be read -/
def RRow (w : World) (A : Option Addr) (vs : List Value) : Prop := vs ≠ [] → ∃ b o, A = some ⟨b, o, none⟩ ∧ ∀ j u, vs[j]? = some u → w.cell? ⟨b, o + j, none⟩ = some u
theorem RRow.below {w w' : World} {A : Option Addr} {vs : List Value} {B : Nat} (h : RRow w A vs) (hb : Below B w w') (hB : w.heap.size ≤ B) : RRow w' A vs := fun hn => by
  obtain ⟨b, o, rfl, hc⟩ := h hn
  exact ⟨b, o, rfl, fun j u hj => (hb.cell (p := ⟨b, o + j, none⟩) (by have := lt_of_cell (hc j u hj); show b < B; omega)).trans (hc j u hj)⟩
theorem RRow.alloc {w : World} {A : Option Addr} {vs : List Value} (h : RRow w A vs) (o : Obj) : RRow (w.alloc o) A vs := h.below ((Below.refl _ _).alloc (Nat.le_refl _) o) (Nat.le_refl _)
theorem RRow.addr {w : World} {A : Option Addr} {vs : List Value} (h : RRow w A vs) (hn : vs ≠ []) : ∃ b o, A = some ⟨b, o, none⟩ := by
  obtain ⟨b, o, rfl, _⟩ := h hn; exact ⟨b, o, rfl⟩
theorem RRow.pg {w : World} {b o k : Nat} {ps : List Pg} {p : Pg} (h : RRow w (some ⟨b, o, none⟩) (pgs ps)) (hk : ps[k]? = some p) :
    w.cell? ⟨b, o + k * 5, none⟩ = some (.int .i64 p.state) ∧ w.cell? ⟨b, o + k * 5 + 1, none⟩ = some (.int .i64 p.rc.kind) ∧ w.cell? ⟨b, o + k * 5 + 2, none⟩ = some (.int .i64 p.rc.seq) ∧
      w.cell? ⟨b, o + k * 5 + 3, none⟩ = some (.int .i64 p.rc.addr) ∧ w.cell? ⟨b, o + k * 5 + 4, none⟩ = some (.int .i64 p.rc.val) := by
  have hlt := (List.getElem?_eq_some_iff.1 hk).1
  obtain ⟨b', o', he, hc⟩ := h (by intro e; have := pgs_len ps; rw [e] at this; simp at this; omega)
  cases he
  have hg : ∀ j u, p.vs[j]? = some u → j < 5 → w.cell? ⟨b, o + (k * 5 + j), none⟩ = some u := fun j u hj hl => hc (k * 5 + j) u (by rw [pgs, flat_get _ 5 (fun _ => rfl) ps k j p hk hl]; exact hj)
  exact ⟨hg 0 _ rfl (by omega), hg 1 _ rfl (by omega), hg 2 _ rfl (by omega), hg 3 _ rfl (by omega), hg 4 _ rfl (by omega)⟩
structure RBks (w : World) (A : Option Addr) (f : List Bk) (hs : List (Option Addr × Nat)) : Prop where
  len : hs.length = f.length
  row : RRow w A (hdrs f hs)
  pg : ∀ (i : Nat) (b : Bk) (x : Option Addr × Nat), f[i]? = some b → hs[i]? = some x → RRow w x.1 (pgs b.pages)
theorem RBks.below {w w' : World} {A : Option Addr} {f : List Bk} {hs : List (Option Addr × Nat)} {B : Nat} (h : RBks w A f hs) (hb : Below B w w') (hB : w.heap.size ≤ B) : RBks w' A f hs :=
  ⟨h.len, h.row.below hb hB, fun i b x h1 h2 => (h.pg i b x h1 h2).below hb hB⟩
theorem RBks.addr {w : World} {A : Option Addr} {f : List Bk} {hs : List (Option Addr × Nat)} (h : RBks w A f hs) (hn : f ≠ []) : ∃ b o, A = some ⟨b, o, none⟩ :=
  h.row.addr (by
    intro e
    have hl := hdrs_len f hs h.len
    rw [e] at hl
    exact hn (List.eq_nil_of_length_eq_zero (by simp at hl; omega)))
theorem RBks.at_ {w : World} {g o i : Nat} {f : List Bk} {hs : List (Option Addr × Nat)} {b : Bk} (h : RBks w (some ⟨g, o, none⟩) f hs) (hi : f[i]? = some b) :
    ∃ x, hs[i]? = some x ∧ w.cell? ⟨g, o + i * 2, none⟩ = some (.slice x.1 b.pages.length x.2) ∧ w.cell? ⟨g, o + i * 2 + 1, none⟩ = some (.int .i64 b.worn) ∧ RRow w x.1 (pgs b.pages) := by
  have hlt := (List.getElem?_eq_some_iff.1 hi).1
  obtain ⟨x, hx⟩ := get_some (l := hs) (k := i) (by rw [h.len]; exact hlt)
  obtain ⟨g1, g2⟩ := hdrs_get f hs i b x hi hx
  obtain ⟨b', o', he, hc⟩ := h.row (by intro e; rw [e] at g1; simp at g1)
  cases he
  exact ⟨x, hx, hc _ _ g1, hc _ _ g2, h.pg i b x hi hx⟩
end Go.Proofs.YtohkoogmbfaceaaGreat
namespace Go.Proofs.YtohkoogmbfaceaaGreat
set_option linter.unusedVariables false
set_option linter.unusedSimpArgs false
open Go.RowKit Go.Maps
set_option maxHeartbeats 400000
def bytes (bs : List Nat) : List Value := bs.map fun (b : Nat) => Value.int .u8 (b : Int)
/-- a reader in block R, above B, of a code that lies below B; its place is not above m -/
def Rd (w : World) (B R m : Nat) : Prop :=
  ∃ (A : Option Addr) (bs : List Nat) (c p : Nat), w.cell? ⟨R, 0, none⟩ = some (.slice A bs.length c) ∧ w.cell? ⟨R, 1, none⟩ = some (.int .i64 p) ∧ w.frozen? ⟨R, 1, none⟩ = false ∧ p ≤ m ∧ bs.length ≤ 2000 ∧ (∀ b ∈ bs, b < 256) ∧
    RRow w A (bytes bs) ∧ (bs ≠ [] → ∀ b, blk A b → b < B) ∧ B ≤ R
theorem Rd.lt {w : World} {B R m : Nat} (h : Rd w B R m) : R < w.heap.size := by obtain ⟨A, bs, c, p, h1, _⟩ := h; exact lt_of_cell h1
theorem Rd.mono {w : World} {B R m n : Nat} (h : Rd w B R m) (hm : m ≤ n) : Rd w B R n := by
  obtain ⟨A, bs, c, p, h1, h2, h3, h4, h5⟩ := h
  exact ⟨A, bs, c, p, h1, h2, h3, by omega, h5⟩
theorem bytes_ne {bs : List Nat} (h : bytes bs ≠ []) : bs ≠ [] := fun e => h (by rw [e]; rfl)
theorem RRow.keep {w w' : World} {A : Option Addr} {vs : List Value} (h : RRow w A vs) (hk : vs ≠ [] → ∀ b, blk A b → b < w.heap.size → w'.heap[b]? = w.heap[b]?) : RRow w' A vs := fun hn => by
  replace hk := hk hn
  obtain ⟨b, o, rfl, hc⟩ := h hn
  refine ⟨b, o, rfl, fun j u hj => ?_⟩
  have h1 := hc j u hj
  exact (World.cell?_of_block (a := ⟨b, o + j, none⟩) (hk b (blk_some.2 rfl) (lt_of_cell h1))).trans h1
/-- what leaves R's block and the blocks below B as they are leaves the reader -/
theorem Rd.keep {w w' : World} {B R m : Nat} (h : Rd w B R m) (hk : ∀ b, b = R ∨ b < B → b < w.heap.size → w'.heap[b]? = w.heap[b]?) : Rd w' B R m := by
  obtain ⟨A, bs, c, p, h1, h2, h3, h4, h5, h6, h7, h8, h9⟩ := h
  have hR := hk R (.inl rfl) (lt_of_cell h1)
  exact ⟨A, bs, c, p, (World.cell?_of_block (a := ⟨R, 0, none⟩) hR).trans h1, (World.cell?_of_block (a := ⟨R, 1, none⟩) hR).trans h2, (World.frozen?_of_block (a := ⟨R, 1, none⟩) hR).trans h3, h4, h5, h6, h7.keep fun hn b hb hl => hk b (.inr (h8 (bytes_ne hn) b hb)) hl, h8, h9⟩
theorem Rd.agr {w w' : World} {B R m : Nat} {S : Nat → Prop} (h : Rd w B R m) (ha : Agr S w w') (h1 : ¬ S R) (h2 : ∀ b, b < B → ¬ S b) : Rd w' B R m :=
  h.keep fun b hb hl => ha.block b hl (by rcases hb with rfl | hb; exact h1; exact h2 b hb)
theorem Rd.below {w w' : World} {B R m C : Nat} (h : Rd w B R m) (hb : Below C w w') (hC : w.heap.size ≤ C) : Rd w' B R m :=
  h.keep fun b _ hl => hb.block b (by omega)
theorem Rd.alloc {w : World} {B R m : Nat} (h : Rd w B R m) (o : Obj) : Rd (w.alloc o) B R m := h.below (C := w.heap.size) ((Below.refl _ _).alloc (Nat.le_refl _) _) (Nat.le_refl _)
theorem Rd.drew {w : World} {B R m : Nat} (h : Rd w B R m) : Rd w.drew B R m := h.keep fun _ _ _ => rfl
theorem Rd.drewN {w : World} {B R m : Nat} (h : Rd w B R m) (n : Nat) : Rd (w.drewN n) B R m := h.keep fun _ _ _ => rfl
end Go.Proofs.YtohkoogmbfaceaaGreat
namespace Go.Proofs.YtohkoogmbfaceaaGreat
set_option linter.unusedVariables false
set_option linter.unusedSimpArgs false
open Go.RowKit Go.Maps
set_option maxHeartbeats 400000
theorem Row.sp {w : World} {b o k : Nat} {xs : List Sp} {x : Sp} (h : Row w (some ⟨b, o, none⟩) (sps xs)) (hk : xs[k]? = some x) :
    w.cell? ⟨b, o + k * 8, none⟩ = some (.int .i64 x.kind) ∧ w.cell? ⟨b, o + k * 8 + 1, none⟩ = some (.int .i64 x.addr) ∧ w.cell? ⟨b, o + k * 8 + 2, none⟩ = some (.int .i64 x.val) ∧ w.cell? ⟨b, o + k * 8 + 3, none⟩ = some (.int .i64 x.block) ∧
    w.cell? ⟨b, o + k * 8 + 4, none⟩ = some (.int .i64 x.rc.kind) ∧ w.cell? ⟨b, o + k * 8 + 5, none⟩ = some (.int .i64 x.rc.seq) ∧ w.cell? ⟨b, o + k * 8 + 6, none⟩ = some (.int .i64 x.rc.addr) ∧ w.cell? ⟨b, o + k * 8 + 7, none⟩ = some (.int .i64 x.rc.val) := by
  have hlt := (List.getElem?_eq_some_iff.1 hk).1
  obtain ⟨b', o', he, hc⟩ := h (by intro e; have := sps_len xs; rw [e] at this; simp at this; omega)
  cases he
  have hg : ∀ j u, x.vs[j]? = some u → j < 8 → w.cell? ⟨b, o + (k * 8 + j), none⟩ = some u := fun j u hj hl => (hc (k * 8 + j) u (by rw [sps, flat_get _ 8 (fun _ => rfl) xs k j x hk hl]; exact hj)).1
  exact ⟨hg 0 _ rfl (by omega), hg 1 _ rfl (by omega), hg 2 _ rfl (by omega), hg 3 _ rfl (by omega), hg 4 _ rfl (by omega), hg 5 _ rfl (by omega), hg 6 _ rfl (by omega), hg 7 _ rfl (by omega)⟩
theorem doAllOf_snoc (s : St) (xs : List Sp) (x : Sp) : doAllOf s (xs ++ [x]) = doStep (doAllOf s xs) x false := by
  unfold doAllOf; rw [List.foldl_append]; rfl
theorem doAllOf_take {xs : List Sp} {k : Nat} {x : Sp} (s : St) (h : xs[k]? = some x) : doAllOf s (xs.take (k + 1)) = doStep (doAllOf s (xs.take k)) x false := by
  rw [List.take_add_one, h]; exact doAllOf_snoc _ _ _
theorem OSt.drew {w : World} {lo hi : Nat} {A D : Option Addr} {f : List Bk} {xs : List Int} (h : OSt w lo hi A f D xs) : OSt w.drew lo hi A f D xs := h.keep fun _ _ _ _ => rfl
set_option maxHeartbeats 4000000 in
set_option maxRecDepth 100000 in
theorem spec_l12To (s : St) (xs : List Sp) (cut : Int) (torn : Bool) (A D V : Option Addr) (c d cs lo hi : Nat) (w : World) (hs : stFine s) (hx : ∀ x ∈ xs, spFine x) (hl : xs.length < 1000000000000) (hhi : hi ≤ w.heap.size) (hO : OSt w lo hi A s.flash D s.disk) (hX : Row w V (sps xs)) (hV : ∀ b, blk V b → ¬ (lo ≤ b ∧ b < hi)) :
    Calls Tryz.prog 27 #[.agg #[.slice A 4 c, .slice D 6 d], .slice V xs.length cs, .int .i64 cut, .bool torn] w fun r w' =>
      r = .returned (.agg #[.slice A 4 c, .slice D 6 d]) ∧ OSt w' lo hi A (doTo s xs cut torn).flash D (doTo s xs cut torn).disk ∧ Agr (fun b => lo ≤ b ∧ b < hi) w w' := by
  have HX := Lib.hid hx
  have HS := Lib.hid hs
  have HV := Lib.hid hV
  clear hx hs hV
  go_enter Tryz.func27, Tryz.ntmps27
  go_wp2
  go_loopw [9] (fun i wr => ∃ k : Nat, k ≤ xs.length ∧ i = .int .i64 k ∧ (k : Int) ≤ max cut 0 ∧ OSt wr lo hi A (doAllOf s (xs.take k)).flash D (doAllOf s (xs.take k)).disk ∧ Agr (fun b => lo ≤ b ∧ b < hi) w wr ∧ w.heap.size + 1 < wr.heap.size ∧
    (wr.cell? ⟨w.heap.size, 0, none⟩ = some (.slice A 4 c) ∧ wr.cell? ⟨w.heap.size, 1, none⟩ = some (.slice D 6 d) ∧ wr.frozen? ⟨w.heap.size, 0, none⟩ = false ∧ wr.frozen? ⟨w.heap.size, 1, none⟩ = false) ∧
    (∃ u0 u1, wr.cell? ⟨w.heap.size + 1, 0, none⟩ = some u0 ∧ wr.cell? ⟨w.heap.size + 1, 1, none⟩ = some u1 ∧ wr.frozen? ⟨w.heap.size + 1, 0, none⟩ = false ∧ wr.frozen? ⟨w.heap.size + 1, 1, none⟩ = false)) (fun i _ => xs.length - (intOf i).toNat)
  case atStart =>
    have hN := Row.new (w.alloc (.cells #[.slice A 4 c, .slice D 6 d] 27)) #[.slice none 0 0, .slice none 0 0] 27
    simp only [World.size_alloc] at hN
    have hM := (Row.new w #[.slice A 4 c, .slice D 6 d] 27).alloc (.cells #[.slice none 0 0, .slice none 0 0] 27)
    exact ⟨0, by omega, rfl, by omega, (hO.alloc' _).alloc' _, ((Agr.refl _ _).alloc _).alloc _, by simp, ⟨(hM.at0 (j := 0) rfl).1, (hM.at0 (j := 1) rfl).1, (hM.at0 (j := 0) rfl).2, (hM.at0 (j := 1) rfl).2⟩, ⟨_, _, (hN.at0 (j := 0) rfl).1, (hN.at0 (j := 1) rfl).1, (hN.at0 (j := 0) rfl).2, (hN.at0 (j := 1) rfl).2⟩⟩
  case round =>
    obtain ⟨k, hk, rfl, hkc, hOk, hA, hsz, ⟨b0, b1, b2, b3⟩, ⟨u0, u1, q0, q1, q2, q3⟩⟩ := hrel
    by_cases hgo : k < xs.length ∧ (k : Int) < cut
    · obtain ⟨hlt, hct⟩ := hgo
      obtain ⟨x, hxk⟩ := get_some hlt
      have hxf := HX.out x (List.mem_of_getElem? hxk)
      have hst := doAllOf_fine (xs := xs.take k) HS.out (fun y hy => HX.out y (List.mem_of_mem_take hy))
      have hXk := hX.agr hA HV.out
      obtain ⟨vb, vo, rfl⟩ := hXk.addr (by intro e; have := sps_len xs; rw [e] at this; simp at this; omega)
      obtain ⟨c0, c1, c2, c3, c4, c5, c6, c7⟩ := hXk.sp hxk
      have hst2 := doAllOf_take s hxk
      have HT := Lib.hid hst2
      have hk1 : (k : Int) < xs.length := by omega
      clear hst2 hxk hXk
      go_wp2
      have hle : hi ≤ wr.drew.heap.size := by show hi ≤ wr.heap.size; omega
      have hn0 : ¬ (lo ≤ w.heap.size ∧ w.heap.size < hi) := by omega
      have hl0 : w.heap.size < wr.drew.heap.size := by show w.heap.size < wr.heap.size; omega
      have hOd := hOk.drew
      have g0 : wr.drew.cell? ⟨w.heap.size, 0, none⟩ = some (.slice A 4 c) := b0
      have g1 : wr.drew.cell? ⟨w.heap.size, 1, none⟩ = some (.slice D 6 d) := b1
      have g2 : wr.drew.frozen? ⟨w.heap.size, 0, none⟩ = false := b2
      have g3 : wr.drew.frozen? ⟨w.heap.size, 1, none⟩ = false := b3
      go_region_with (first | (go_at_call 36; refine (spec_l12Do (doAllOf s (xs.take k)) x false A D c d lo hi _ hst hxf hle hOd).mono ?_; rintro e w1 ⟨rfl, hO1, hA1⟩; have d0 := (hA1.cell hl0 hn0 0).trans g0; have d1 := (hA1.cell hl0 hn0 1).trans g1; have d2 := (hA1.fz hl0 hn0 0).trans g2; have d3 := (hA1.fz hl0 hn0 1).trans g3))
      all_goals
        have hn1 : ¬ (lo ≤ w.heap.size + 1 ∧ w.heap.size + 1 < hi) := by omega
        have hl1 : w.heap.size + 1 < wr.drew.heap.size := hsz
        have r0 := (hA1.cell hl1 hn1 0).trans (show wr.drew.cell? ⟨w.heap.size + 1, 0, none⟩ = some u0 from q0)
        have r1 := (hA1.cell hl1 hn1 1).trans (show wr.drew.cell? ⟨w.heap.size + 1, 1, none⟩ = some u1 from q1)
        have r2 := (hA1.fz hl1 hn1 0).trans (show wr.drew.frozen? ⟨w.heap.size + 1, 0, none⟩ = false from q2)
        have r3 := (hA1.fz hl1 hn1 1).trans (show wr.drew.frozen? ⟨w.heap.size + 1, 1, none⟩ = false from q3)
        have hA2 := hA.drew.trans hA1 (fun b _ hb => hb)
        have hs1 : wr.heap.size ≤ w1.heap.size := hA1.size
        rw [← HT.out] at hO1
        have hW : Wrote w1 ((w1.setCell ⟨w.heap.size, 0, none⟩ (.slice A 4 c)).setCell ⟨w.heap.size, 1, none⟩ (.slice D 6 d)) w.heap.size 0 [.slice A 4 c, .slice D 6 d] := wrote_setRow w.heap.size [.slice A 4 c, .slice D 6 d] 0 w1 (fun j hj => by
          match j, hj with
          | 0, _ => exact ⟨_, d0⟩
          | 1, _ => exact ⟨_, d1⟩)
        have hO3 : OSt _ lo hi A (doAllOf s (xs.take (k + 1))).flash D (doAllOf s (xs.take (k + 1))).disk := hO1.keep fun b h1 h2 _ => hW.block b (by omega)
        have hA3 := hA2.trans (S' := (· = w.heap.size)) hW.agr (fun b hb e => by omega)
        have t0 := hW.new_ 0 _ rfl
        have t1 := hW.new_ 1 _ rfl
        have t2 := (hW.frozen ⟨w.heap.size, 0, none⟩).trans d2
        have t3 := (hW.frozen ⟨w.heap.size, 1, none⟩).trans d3
        have s0 := (hW.agr.cell (b := w.heap.size + 1) (by omega) (by omega) 0).trans r0
        have s1 := (hW.agr.cell (b := w.heap.size + 1) (by omega) (by omega) 1).trans r1
        have s2 := (hW.frozen ⟨w.heap.size + 1, 0, none⟩).trans r2
        have s3 := (hW.frozen ⟨w.heap.size + 1, 1, none⟩).trans r3
        have hss := hW.size
        clear hW
        go_wp2
        go_roundw
        (case rel => exact ⟨k + 1, by omega, by go_num, by omega, hO3, hA3, by omega, ⟨t0, t1, t2, t3⟩, ⟨u0, u1, s0, s1, s2, s3⟩⟩)
        (case measure => simp [intOf]; omega)
    · have hT : Hid (doAllOf s (xs.take k) = doAllOf s (xs.take cut.toNat)) := by
        rw [Hid]
        congr 1
        by_cases h : k < xs.length
        · have : ¬ (k : Int) < cut := fun h2 => hgo ⟨h, h2⟩
          rw [show cut.toNat = k by omega]
        · rw [List.take_of_length_le (by omega)]
          by_cases h2 : xs.length ≤ cut.toNat
          · rw [List.take_of_length_le h2]
          · rw [show cut.toNat = xs.length by omega, List.take_of_length_le (Nat.le_refl _)]
      have hgd : (k : Int) < xs.length → ¬ (k : Int) < cut := fun h h2 => hgo ⟨by omega, h2⟩
      rw [hT.out] at hOk
      clear hgo
      cases torn
      · have h3 : Hid (doTo s xs cut false = doAllOf s (xs.take cut.toNat)) := by unfold Hid doTo; rw [if_neg (by simp)]
        by_cases hlt : (k : Int) < xs.length
        · have hct := hgd hlt
          go_wp2
          refine bodyPost_ret (v := .agg #[.slice A 4 c, .slice D 6 d]) (by simp [results, Tryz.results27, go_sem, b0, b1, q0, q1]) rfl ⟨rfl, ?_, ?_⟩
          · rw [h3.out]
            have hbb : Below w.heap.size wr ((wr.setCell ⟨w.heap.size + 1, 0, none⟩ (.slice A 4 c)).setCell ⟨w.heap.size + 1, 1, none⟩ (.slice D 6 d)) := by (repeat (first | (with_reducible exact Below.refl _ _) | (with_reducible assumption) | (refine Below.setCell ?_ (by first | omega | exact hB.size | exact hb.size | (have h := hB.size; simp; omega) | (have h := hb.size; simp; omega) | (simp; omega) | simp) _) | (refine Below.alloc ?_ (by first | omega | exact hB.size | exact hb.size | (have h := hB.size; simp; omega) | (have h := hb.size; simp; omega) | (simp; omega) | simp) _) | (refine Below.drew ?_)))
            exact hOk.keep fun y _ h2 _ => hbb.block y (by omega)
          · exact (hA.setCell (.inl (by show w.heap.size ≤ w.heap.size + 1; omega)) _).setCell (.inl (by show w.heap.size ≤ w.heap.size + 1; omega)) _
        · go_wp2
          refine bodyPost_ret (v := .agg #[.slice A 4 c, .slice D 6 d]) (by simp [results, Tryz.results27, go_sem, b0, b1, q0, q1]) rfl ⟨rfl, ?_, ?_⟩
          · rw [h3.out]
            have hbb : Below w.heap.size wr ((wr.setCell ⟨w.heap.size + 1, 0, none⟩ (.slice A 4 c)).setCell ⟨w.heap.size + 1, 1, none⟩ (.slice D 6 d)) := by (repeat (first | (with_reducible exact Below.refl _ _) | (with_reducible assumption) | (refine Below.setCell ?_ (by first | omega | exact hB.size | exact hb.size | (have h := hB.size; simp; omega) | (have h := hb.size; simp; omega) | (simp; omega) | simp) _) | (refine Below.alloc ?_ (by first | omega | exact hB.size | exact hb.size | (have h := hB.size; simp; omega) | (have h := hb.size; simp; omega) | (simp; omega) | simp) _) | (refine Below.drew ?_)))
            exact hOk.keep fun y _ h2 _ => hbb.block y (by omega)
          · exact (hA.setCell (.inl (by show w.heap.size ≤ w.heap.size + 1; omega)) _).setCell (.inl (by show w.heap.size ≤ w.heap.size + 1; omega)) _
      · have h3n : ¬ (0 ≤ cut ∧ cut < xs.length) → Hid (doTo s xs cut true = doAllOf s (xs.take cut.toNat)) := by intro h; unfold Hid doTo; rw [if_neg (by simpa using h)]
        have h3p : (0 ≤ cut ∧ cut < xs.length) → Hid (doTo s xs cut true = doStep (doAllOf s (xs.take cut.toNat)) (xs.getD cut.toNat ⟨0, 0, 0, 0, rc0⟩) true) := by intro h; unfold Hid doTo; rw [if_pos (by simpa using h)]
        by_cases hlt : (k : Int) < xs.length
        · have hct := hgd hlt
          by_cases h0 : 0 ≤ cut
          · obtain rfl : cut = k := by omega
            have hst := doAllOf_fine (xs := xs.take (k : Int).toNat) HS.out (fun y hy => HX.out y (List.mem_of_mem_take hy))
            obtain ⟨x, hxk⟩ := get_some (l := xs) (k := k) (by omega)
            have hxf := HX.out x (List.mem_of_getElem? hxk)
            have hXk := hX.agr hA HV.out
            obtain ⟨vb, vo, rfl⟩ := hXk.addr (by intro e; have := sps_len xs; rw [e] at this; simp at this; omega)
            obtain ⟨c0, c1, c2, c3, c4, c5, c6, c7⟩ := hXk.sp hxk
            have h3 : Hid (doTo s xs k true = doStep (doAllOf s (xs.take (k : Int).toNat)) x true) := by
              rw [Hid, (h3p ⟨by omega, by omega⟩).out, Int.toNat_natCast, List.getD_eq_getElem?_getD, hxk]; rfl
            have hk0 : (0 : Int) ≤ k := by omega
            have hk1 : (k : Int) ≤ xs.length - 1 := by omega
            clear h3p h3n hxk hXk hgd
            go_wp2_with fail
            refine (spec_l6In _ _ _ _).mono ?_
            rintro e w1 ⟨rfl, rfl⟩
            rw [show (decide ((0 : Int) ≤ k) && decide ((k : Int) ≤ xs.length - 1)) = true from by simp [hk0, hk1]]
            go_wp2
            have hle : hi ≤ wr.drew.heap.size := by show hi ≤ wr.heap.size; omega
            have hn0 : ¬ (lo ≤ w.heap.size ∧ w.heap.size < hi) := by omega
            have hl0 : w.heap.size < wr.drew.heap.size := by show w.heap.size < wr.heap.size; omega
            have hOd := hOk.drew
            have g0 : wr.drew.cell? ⟨w.heap.size, 0, none⟩ = some (.slice A 4 c) := b0
            have g1 : wr.drew.cell? ⟨w.heap.size, 1, none⟩ = some (.slice D 6 d) := b1
            have g2 : wr.drew.frozen? ⟨w.heap.size, 0, none⟩ = false := b2
            have g3 : wr.drew.frozen? ⟨w.heap.size, 1, none⟩ = false := b3
            go_region_with (first | (go_at_call 36; refine (spec_l12Do (doAllOf s (xs.take (k : Int).toNat)) x true A D c d lo hi _ hst hxf hle hOd).mono ?_; rintro e w1 ⟨rfl, hO1, hA1⟩; have d0 := (hA1.cell hl0 hn0 0).trans g0; have d1 := (hA1.cell hl0 hn0 1).trans g1; have d2 := (hA1.fz hl0 hn0 0).trans g2; have d3 := (hA1.fz hl0 hn0 1).trans g3))
            all_goals
              have hn1 : ¬ (lo ≤ w.heap.size + 1 ∧ w.heap.size + 1 < hi) := by omega
              have hl1 : w.heap.size + 1 < wr.drew.heap.size := hsz
              have r0 := (hA1.cell hl1 hn1 0).trans (show wr.drew.cell? ⟨w.heap.size + 1, 0, none⟩ = some u0 from q0)
              have r1 := (hA1.cell hl1 hn1 1).trans (show wr.drew.cell? ⟨w.heap.size + 1, 1, none⟩ = some u1 from q1)
              have r2 := (hA1.fz hl1 hn1 0).trans (show wr.drew.frozen? ⟨w.heap.size + 1, 0, none⟩ = false from q2)
              have r3 := (hA1.fz hl1 hn1 1).trans (show wr.drew.frozen? ⟨w.heap.size + 1, 1, none⟩ = false from q3)
              have hA2 := hA.drew.trans hA1 (fun b _ hb => hb)
              have hs1 : wr.heap.size ≤ w1.heap.size := hA1.size
              have hW : Wrote w1 ((w1.setCell ⟨w.heap.size, 0, none⟩ (.slice A 4 c)).setCell ⟨w.heap.size, 1, none⟩ (.slice D 6 d)) w.heap.size 0 [.slice A 4 c, .slice D 6 d] := wrote_setRow w.heap.size [.slice A 4 c, .slice D 6 d] 0 w1 (fun j hj => by
                match j, hj with
                | 0, _ => exact ⟨_, d0⟩
                | 1, _ => exact ⟨_, d1⟩)
              have hO3 : OSt _ lo hi A (doStep (doAllOf s (xs.take (k : Int).toNat)) x true).flash D (doStep (doAllOf s (xs.take (k : Int).toNat)) x true).disk := hO1.keep fun b h1 h2 _ => hW.block b (by omega)
              have hA3 := hA2.trans (S' := (· = w.heap.size)) hW.agr (fun b hb e => by omega)
              have t0 := hW.new_ 0 _ rfl
              have t1 := hW.new_ 1 _ rfl
              have s0 := (hW.agr.cell (b := w.heap.size + 1) (by omega) (by omega) 0).trans r0
              have s1 := (hW.agr.cell (b := w.heap.size + 1) (by omega) (by omega) 1).trans r1
              have s2 := (hW.frozen ⟨w.heap.size + 1, 0, none⟩).trans r2
              have s3 := (hW.frozen ⟨w.heap.size + 1, 1, none⟩).trans r3
              have hss := hW.size
              clear hW
              go_wp2
              refine bodyPost_ret (v := .agg #[.slice A 4 c, .slice D 6 d]) (by simp [results, Tryz.results27, go_sem, t0, t1, s0, s1]) rfl ⟨rfl, ?_, ?_⟩
              · rw [h3.out]
                refine hO3.keep fun y _ h2 _ => ?_
                rw [Below.heap_setCell _ _ _ _ (by show y ≠ w.heap.size + 1; omega), Below.heap_setCell _ _ _ _ (by show y ≠ w.heap.size + 1; omega)]
              · exact (hA3.setCell (.inl (by show w.heap.size ≤ w.heap.size + 1; omega)) _).setCell (.inl (by show w.heap.size ≤ w.heap.size + 1; omega)) _
          · have h3 := h3n (by omega)
            have e0 : decide (0 ≤ cut) = false := by simpa using h0
            go_wp2_with fail
            refine (spec_l6In _ _ _ _).mono ?_
            rintro e w1 ⟨rfl, rfl⟩
            rw [e0, Bool.false_and]
            go_wp2
            refine bodyPost_ret (v := .agg #[.slice A 4 c, .slice D 6 d]) (by simp [results, Tryz.results27, go_sem, b0, b1, q0, q1]) rfl ⟨rfl, ?_, ?_⟩
            · rw [h3.out]
              have hbb : Below w.heap.size wr ((wr.setCell ⟨w.heap.size + 1, 0, none⟩ (.slice A 4 c)).setCell ⟨w.heap.size + 1, 1, none⟩ (.slice D 6 d)) := by (repeat (first | (with_reducible exact Below.refl _ _) | (with_reducible assumption) | (refine Below.setCell ?_ (by first | omega | exact hB.size | exact hb.size | (have h := hB.size; simp; omega) | (have h := hb.size; simp; omega) | (simp; omega) | simp) _) | (refine Below.alloc ?_ (by first | omega | exact hB.size | exact hb.size | (have h := hB.size; simp; omega) | (have h := hb.size; simp; omega) | (simp; omega) | simp) _) | (refine Below.drew ?_)))
              exact hOk.keep fun y _ h2 _ => hbb.block y (by omega)
            · exact (hA.setCell (.inl (by show w.heap.size ≤ w.heap.size + 1; omega)) _).setCell (.inl (by show w.heap.size ≤ w.heap.size + 1; omega)) _
        · have h3 := h3n (by omega)
          have e0 : (decide (0 ≤ cut) && decide (cut ≤ (xs.length : Int) - 1)) = false := by simp; omega
          go_wp2_with fail
          refine (spec_l6In _ _ _ _).mono ?_
          rintro e w1 ⟨rfl, rfl⟩
          rw [e0]
          go_wp2
          refine bodyPost_ret (v := .agg #[.slice A 4 c, .slice D 6 d]) (by simp [results, Tryz.results27, go_sem, b0, b1, q0, q1]) rfl ⟨rfl, ?_, ?_⟩
          · rw [h3.out]
            have hbb : Below w.heap.size wr ((wr.setCell ⟨w.heap.size + 1, 0, none⟩ (.slice A 4 c)).setCell ⟨w.heap.size + 1, 1, none⟩ (.slice D 6 d)) := by (repeat (first | (with_reducible exact Below.refl _ _) | (with_reducible assumption) | (refine Below.setCell ?_ (by first | omega | exact hB.size | exact hb.size | (have h := hB.size; simp; omega) | (have h := hb.size; simp; omega) | (simp; omega) | simp) _) | (refine Below.alloc ?_ (by first | omega | exact hB.size | exact hb.size | (have h := hB.size; simp; omega) | (have h := hb.size; simp; omega) | (simp; omega) | simp) _) | (refine Below.drew ?_)))
            exact hOk.keep fun y _ h2 _ => hbb.block y (by omega)
          · exact (hA.setCell (.inl (by show w.heap.size ≤ w.heap.size + 1; omega)) _).setCell (.inl (by show w.heap.size ≤ w.heap.size + 1; omega)) _
end Go.Proofs.YtohkoogmbfaceaaGreat
namespace Go.Proofs.YtohkoogmbfaceaaGreat
set_option linter.unusedVariables false
set_option linter.unusedSimpArgs false
open Go.RowKit Go.Maps
set_option maxHeartbeats 400000
def upto (s : St) : Nat → St
  | 0 => s
  | k + 1 => doFlush (upto s k) (k + 1)
theorem upto_six (s : St) : upto s 6 = doEvery s := by
  simp only [upto, doEvery, List.foldl_cons, List.foldl_nil]
  generalize doFlush = F
  rfl
theorem upto_fine {s : St} (h : stFine s) : ∀ k, stFine (upto s k)
  | 0 => h
  | k + 1 => doFlush_fine (upto_fine h k) _
theorem stFine_pages {s : St} (h : stFine s) : ∀ b ∈ s.flash, b.pages.length = 4 := fun b hb => (h.1.2 b hb).1
theorem flush_len {s : St} (h : stFine s) (a : Int) : (flush s a).length ≤ 7 := by
  have := wr_len h.1.1 (stFine_pages h) 2 a (readV s a)
  unfold flush
  split
  · simp
  · split
    · simp
    · simp only [List.length_cons]; omega
set_option maxHeartbeats 4000000 in
set_option maxRecDepth 100000 in
theorem spec_l21All (s : St) (A D : Option Addr) (c d lo hi : Nat) (w : World) (hs : stFine s) (hhi : hi ≤ w.heap.size) (hO : OSt w lo hi A s.flash D s.disk) :
    Calls Tryz.prog 26 #[.agg #[.slice A 4 c, .slice D 6 d]] w fun r w' =>
      r = .returned (.agg #[.slice A 4 c, .slice D 6 d]) ∧ OSt w' lo hi A (doEvery s).flash D (doEvery s).disk ∧ Agr (fun b => lo ≤ b ∧ b < hi) w w' := by
  have HS := Lib.hid hs
  clear hs
  go_enter Tryz.func26, Tryz.ntmps26
  go_wp2
  go_loopw [3] (fun i wr => ∃ k : Nat, k ≤ 6 ∧ i = .int .i64 (k + 1) ∧ OSt wr lo hi A (upto s k).flash D (upto s k).disk ∧ Agr (fun b => lo ≤ b ∧ b < hi) w wr ∧ w.heap.size + 1 < wr.heap.size ∧
    (wr.cell? ⟨w.heap.size, 0, none⟩ = some (.slice A 4 c) ∧ wr.cell? ⟨w.heap.size, 1, none⟩ = some (.slice D 6 d) ∧ wr.frozen? ⟨w.heap.size, 0, none⟩ = false ∧ wr.frozen? ⟨w.heap.size, 1, none⟩ = false) ∧
    (∃ u0 u1, wr.cell? ⟨w.heap.size + 1, 0, none⟩ = some u0 ∧ wr.cell? ⟨w.heap.size + 1, 1, none⟩ = some u1 ∧ wr.frozen? ⟨w.heap.size + 1, 0, none⟩ = false ∧ wr.frozen? ⟨w.heap.size + 1, 1, none⟩ = false)) (fun i _ => 7 - (intOf i).toNat)
  case atStart =>
    have hN := Row.new (w.alloc (.cells #[.slice A 4 c, .slice D 6 d] 27)) #[.slice none 0 0, .slice none 0 0] 27
    simp only [World.size_alloc] at hN
    have hM := (Row.new w #[.slice A 4 c, .slice D 6 d] 27).alloc (.cells #[.slice none 0 0, .slice none 0 0] 27)
    exact ⟨0, by omega, rfl, (hO.alloc' _).alloc' _, ((Agr.refl _ _).alloc _).alloc _, by simp, ⟨(hM.at0 (j := 0) rfl).1, (hM.at0 (j := 1) rfl).1, (hM.at0 (j := 0) rfl).2, (hM.at0 (j := 1) rfl).2⟩, ⟨_, _, (hN.at0 (j := 0) rfl).1, (hN.at0 (j := 1) rfl).1, (hN.at0 (j := 0) rfl).2, (hN.at0 (j := 1) rfl).2⟩⟩
  case round =>
    obtain ⟨k, hk, rfl, hOk, hA, hsz, ⟨b0, b1, b2, b3⟩, ⟨u0, u1, q0, q1, q2, q3⟩⟩ := hrel
    by_cases hlt : k < 6
    · have hst := Lib.hid (upto_fine HS.out k)
      have hk1 : (k : Int) + 1 ≤ 6 := by omega
      go_wp2_with fail
      refine (spec_l12Flush (upto s k) (k + 1) A D c d _ hst.out.1.1 (stFine_pages hst.out) (most_small hst.out.1) hst.out.2.1 hOk.ofl.fl hOk.disk).mono ?_
      rintro e w1 ⟨v, rfl, hOS, hb⟩
      obtain ⟨V, cs, rfl, hcs, hRow, hblk⟩ := hOS.shape
      have hff := Lib.hid (flush_fine hst.out (k + 1))
      have hfl := flush_len hst.out (k + 1)
      have hO1 := hOk.below hb (Nat.le_refl _)
      have hA1 := hA.trans (S' := fun _ => False) (Agr.of_below hb) (fun b hb e => absurd e id)
      have hs1 := hb.size
      obtain ⟨hc, hfz⟩ := bcell hb
      replace b0 := (hc _ _ (by omega)).trans b0
      replace b1 := (hc _ _ (by omega)).trans b1
      replace b2 := (hfz _ _ (by omega)).trans b2
      replace b3 := (hfz _ _ (by omega)).trans b3
      replace q0 := (hc _ _ (by omega)).trans q0
      replace q1 := (hc _ _ (by omega)).trans q1
      replace q2 := (hfz _ _ (by omega)).trans q2
      replace q3 := (hfz _ _ (by omega)).trans q3
      have hfin : Hid (doTo (upto s k) (flush (upto s k) (k + 1)) (flush (upto s k) (k + 1)).length false = upto s (k + 1)) := rfl
      generalize flush (upto s k) (k + 1) = xs at *
      clear hb hc hfz hOk hA hOS
      go_wp2_with fail
      have hsz0 := hA1.size
      refine (spec_l12To (upto s k) xs xs.length false A D V c d cs lo hi _ hst.out hff.out (by omega) (by omega) hO1 hRow (fun b hb => by have := hblk b hb; omega)).mono ?_
      rintro e w2 ⟨rfl, hO2, hA2⟩
      have hs2 := hA2.size
      replace b0 := (hA2.cell (by omega) (by omega) 0).trans b0
      replace b1 := (hA2.cell (by omega) (by omega) 1).trans b1
      replace b2 := (hA2.fz (by omega) (by omega) 0).trans b2
      replace b3 := (hA2.fz (by omega) (by omega) 1).trans b3
      replace q0 := (hA2.cell (by omega) (by omega) 0).trans q0
      replace q1 := (hA2.cell (by omega) (by omega) 1).trans q1
      replace q2 := (hA2.fz (by omega) (by omega) 0).trans q2
      replace q3 := (hA2.fz (by omega) (by omega) 1).trans q3
      have hA3 := hA1.trans hA2 (fun b _ hb => hb)
      rw [hfin.out] at hO2
      clear hO1 hA1 hA2 hRow
      have hW : Wrote w2 ((w2.setCell ⟨w.heap.size, 0, none⟩ (.slice A 4 c)).setCell ⟨w.heap.size, 1, none⟩ (.slice D 6 d)) w.heap.size 0 [.slice A 4 c, .slice D 6 d] := wrote_setRow w.heap.size [.slice A 4 c, .slice D 6 d] 0 w2 (fun j hj => by
        match j, hj with
        | 0, _ => exact ⟨_, b0⟩
        | 1, _ => exact ⟨_, b1⟩)
      have hO3 : OSt _ lo hi A (upto s (k + 1)).flash D (upto s (k + 1)).disk := hO2.keep fun b h1 h2 _ => hW.block b (by omega)
      have hA4 := hA3.trans (S' := (· = w.heap.size)) hW.agr (fun b hb e => by omega)
      have t0 := hW.new_ 0 _ rfl
      have t1 := hW.new_ 1 _ rfl
      have t2 := (hW.frozen ⟨w.heap.size, 0, none⟩).trans b2
      have t3 := (hW.frozen ⟨w.heap.size, 1, none⟩).trans b3
      have s0 := (hW.agr.cell (b := w.heap.size + 1) (by omega) (by omega) 0).trans q0
      have s1 := (hW.agr.cell (b := w.heap.size + 1) (by omega) (by omega) 1).trans q1
      have s2 := (hW.frozen ⟨w.heap.size + 1, 0, none⟩).trans q2
      have s3 := (hW.frozen ⟨w.heap.size + 1, 1, none⟩).trans q3
      have hss := hW.size
      have e1 : IntKind.i64.wrap ((k : Int) + 1 + 1) = (k : Int) + 1 + 1 := IntWalk.i64_in _ (by omega)
      clear hW
      go_wp2
      go_roundw
      (case rel => exact ⟨k + 1, by omega, by go_num, hO3, hA4, by omega, ⟨t0, t1, t2, t3⟩, ⟨u0, u1, s0, s1, s2, s3⟩⟩)
      (case measure => simp [intOf]; omega)
    · obtain rfl : k = 6 := by omega
      go_wp2
      refine bodyPost_ret (v := .agg #[.slice A 4 c, .slice D 6 d]) (by simp [results, Tryz.results26, go_sem, b0, b1, q0, q1]) rfl ⟨rfl, ?_, ?_⟩
      · rw [← upto_six]
        have hbb : Below w.heap.size wr ((wr.setCell ⟨w.heap.size + 1, 0, none⟩ (.slice A 4 c)).setCell ⟨w.heap.size + 1, 1, none⟩ (.slice D 6 d)) := by (repeat (first | (with_reducible exact Below.refl _ _) | (with_reducible assumption) | (refine Below.setCell ?_ (by first | omega | exact hB.size | exact hb.size | (have h := hB.size; simp; omega) | (have h := hb.size; simp; omega) | (simp; omega) | simp) _) | (refine Below.alloc ?_ (by first | omega | exact hB.size | exact hb.size | (have h := hB.size; simp; omega) | (have h := hb.size; simp; omega) | (simp; omega) | simp) _) | (refine Below.drew ?_)))
        exact hOk.keep fun y _ h2 _ => hbb.block y (by omega)
      · exact (hA.setCell (.inl (by show w.heap.size ≤ w.heap.size + 1; omega)) _).setCell (.inl (by show w.heap.size ≤ w.heap.size + 1; omega)) _
end Go.Proofs.YtohkoogmbfaceaaGreat
namespace Go.Proofs.YtohkoogmbfaceaaGreat
set_option linter.unusedVariables false
set_option linter.unusedSimpArgs false
open Go.RowKit Go.Maps
set_option maxHeartbeats 400000
theorem stepsOf_len {s : St} (h : stFine s) (e : Ev) : (stepsOf s e).length ≤ 8 := by
  have h1 := wr_len h.1.1 (stFine_pages h)
  unfold stepsOf
  split
  · have := h1 1 e.a e.b; omega
  · split
    · have := flush_len h e.a; omega
    · split
      · unfold fill
        split
        · simp
        · have := h1 2 e.a (s.disk.getD (e.a - 1).toNat 0); omega
      · simp
set_option maxHeartbeats 4000000 in
set_option maxRecDepth 100000 in
theorem spec_l21Do (s : St) (e : Ev) (A D : Option Addr) (c d lo hi : Nat) (w : World) (hs : stFine s) (hhi : hi ≤ w.heap.size) (hO : OSt w lo hi A s.flash D s.disk) :
    Calls Tryz.prog 14 #[.agg #[.slice A 4 c, .slice D 6 d], .agg #[.int .i64 e.kind, .int .i64 e.a, .int .i64 e.b, .int .i64 e.c, .bool e.torn]] w fun r w' =>
      r = .returned (.agg #[.slice A 4 c, .slice D 6 d]) ∧ OSt w' lo hi A (doEv s e).flash D (doEv s e).disk ∧ Agr (fun b => lo ≤ b ∧ b < hi) w w' := by
  obtain ⟨k, a, b, cc, t⟩ := e
  dsimp only
  have HS := Lib.hid hs
  have hfin : Hid (doEv s ⟨k, a, b, cc, t⟩ = if k = 4 then doEvery s else if cc < 0 then s else doTo s (stepsOf s ⟨k, a, b, cc, t⟩) cc t) := rfl
  obtain ⟨W, hW⟩ : ∃ W, W = ((w.alloc (.cells #[.slice A 4 c, .slice D 6 d] 27)).alloc (.cells #[.int .i64 k, .int .i64 a, .int .i64 b, .int .i64 cc, .bool t] 40)).alloc (.cells #[.slice none 0 0, .slice none 0 0] 27) := ⟨_, rfl⟩
  have hOW : OSt W lo hi A s.flash D s.disk := by rw [hW]; exact ((hO.alloc' _).alloc' _).alloc' _
  have hAW : Agr (fun y => lo ≤ y ∧ y < hi) w W := by rw [hW]; exact (((Agr.refl _ _).alloc _).alloc _).alloc _
  have b0 : W.cell? ⟨w.heap.size, 0, none⟩ = some (.slice A 4 c) := by rw [hW]; exact cell3 (by simp)
  have b1 : W.cell? ⟨w.heap.size, 1, none⟩ = some (.slice D 6 d) := by rw [hW]; exact cell3 (by simp)
  have hM := ((Row.new (w.alloc (.cells #[.slice A 4 c, .slice D 6 d] 27)) #[.int .i64 k, .int .i64 a, .int .i64 b, .int .i64 cc, .bool t] 40).alloc (.cells #[.slice none 0 0, .slice none 0 0] 27))
  rw [← hW] at hM
  simp only [World.size_alloc] at hM
  have c0 := (hM.at0 (j := 0) rfl).1
  have c1 := (hM.at0 (j := 1) rfl).1
  have c2 := (hM.at0 (j := 2) rfl).1
  have c3 := (hM.at0 (j := 3) rfl).1
  have c4 := (hM.at0 (j := 4) rfl).1
  have hT := top3 w (.cells #[.slice A 4 c, .slice D 6 d] 27) (.cells #[.int .i64 k, .int .i64 a, .int .i64 b, .int .i64 cc, .bool t] 40) #[.slice none 0 0, .slice none 0 0] 27
  rw [← hW] at hT
  have q0 := (hT.at0 (j := 0) rfl).1
  have q1 := (hT.at0 (j := 1) rfl).1
  have q2 := (hT.at0 (j := 0) rfl).2
  have q3 := (hT.at0 (j := 1) rfl).2
  have hWs : W.heap.size = w.heap.size + 1 + 1 + 1 := by rw [hW]; simp
  have HW := Lib.hid hW
  clear hW hs hT hM
  by_cases h4 : k = 4
  · subst h4
    have h3 : Hid (doEv s ⟨4, a, b, cc, t⟩ = doEvery s) := by rw [Hid, hfin.out, if_pos rfl]
    go_enter Tryz.func14, Tryz.ntmps14
    go_wp2_with fail
    rw [← HW.out]
    refine (spec_l21All s A D c d lo hi _ HS.out (by omega) hOW).mono ?_
    rintro e w1 ⟨rfl, hO1, hA1⟩
    replace q0 := (hA1.cell (by omega) (by omega) 0).trans q0
    replace q1 := (hA1.cell (by omega) (by omega) 1).trans q1
    replace q2 := (hA1.fz (by omega) (by omega) 0).trans q2
    replace q3 := (hA1.fz (by omega) (by omega) 1).trans q3
    have hA2 := hAW.trans hA1 (fun b _ hb => hb)
    have hs1 := hA1.size
    clear hA1 hOW hAW
    go_wp2
    refine bodyPost_ret (v := .agg #[.slice A 4 c, .slice D 6 d]) (by simp [results, Tryz.results14, go_sem, q0, q1]) rfl ⟨rfl, ?_, ?_⟩
    · rw [h3.out]
      refine hO1.keep fun y _ h2 _ => ?_
      rw [Below.heap_setCell _ _ _ _ (by show y ≠ w.heap.size + 1 + 1; omega), Below.heap_setCell _ _ _ _ (by show y ≠ w.heap.size + 1 + 1; omega)]
    · exact (hA2.setCell (.inl (by show w.heap.size ≤ w.heap.size + 1 + 1; omega)) _).setCell (.inl (by show w.heap.size ≤ w.heap.size + 1 + 1; omega)) _
  · have h4' : (k == 4) = false := by simpa using h4
    by_cases hc : cc < 0
    · have h3 : Hid (doEv s ⟨k, a, b, cc, t⟩ = s) := by rw [Hid, hfin.out, if_neg h4, if_pos hc]
      go_enter Tryz.func14, Tryz.ntmps14
      go_wp2
      refine bodyPost_ret (v := .agg #[.slice A 4 c, .slice D 6 d]) (by simp [results, Tryz.results14, go_sem]) rfl ⟨rfl, ?_, ?_⟩
      · rw [h3.out]
        exact ((hO.alloc' _).alloc' _).alloc' _
      · exact (((Agr.refl _ _).alloc _).alloc _).alloc _
    · have h3 : Hid (doEv s ⟨k, a, b, cc, t⟩ = doTo s (stepsOf s ⟨k, a, b, cc, t⟩) cc t) := by rw [Hid, hfin.out, if_neg h4, if_neg hc]
      have hW1 : w.heap.size < W.drew.heap.size := by show w.heap.size < W.heap.size; omega
      have hW2 : w.heap.size + 1 < W.drew.heap.size := by show w.heap.size + 1 < W.heap.size; omega
      have hW3 : w.heap.size + 1 + 1 < W.drew.heap.size := by show w.heap.size + 1 + 1 < W.heap.size; omega
      have hff := Lib.hid (stepsOf_fine HS.out ⟨k, a, b, cc, t⟩)
      have hfl := stepsOf_len HS.out ⟨k, a, b, cc, t⟩
      have hO0 := hOW.drew
      have hsz : w.heap.size + 1 + 1 < W.heap.size := by omega
      have h5 := Lib.hid (spec_l21Steps s ⟨k, a, b, cc, t⟩ A D c d W.drew HS.out.1.1 (stFine_pages HS.out) (most_small HS.out.1) HS.out.2.1 hO0.ofl.fl hO0.disk)
      generalize stepsOf s ⟨k, a, b, cc, t⟩ = xs at *
      go_enter Tryz.func14, Tryz.ntmps14
      go_wp2_with fail
      rw [← HW.out]
      have db0 : W.drew.cell? ⟨w.heap.size, 0, none⟩ = some (.slice A 4 c) := b0
      have db1 : W.drew.cell? ⟨w.heap.size, 1, none⟩ = some (.slice D 6 d) := b1
      have dc0 : W.drew.cell? ⟨w.heap.size + 1, 0, none⟩ = some (.int .i64 k) := c0
      have dc1 : W.drew.cell? ⟨w.heap.size + 1, 1, none⟩ = some (.int .i64 a) := c1
      have dc2 : W.drew.cell? ⟨w.heap.size + 1, 2, none⟩ = some (.int .i64 b) := c2
      have dc3 : W.drew.cell? ⟨w.heap.size + 1, 3, none⟩ = some (.int .i64 cc) := c3
      have dc4 : W.drew.cell? ⟨w.heap.size + 1, 4, none⟩ = some (.bool t) := c4
      have dq0 : W.drew.cell? ⟨w.heap.size + 1 + 1, 0, none⟩ = some (.slice none 0 0) := q0
      have dq1 : W.drew.cell? ⟨w.heap.size + 1 + 1, 1, none⟩ = some (.slice none 0 0) := q1
      have dq2 : W.drew.frozen? ⟨w.heap.size + 1 + 1, 0, none⟩ = false := q2
      have dq3 : W.drew.frozen? ⟨w.heap.size + 1 + 1, 1, none⟩ = false := q3
      have hAd : Agr (fun y => lo ≤ y ∧ y < hi) w W.drew := hAW.drew
      have hid : hi ≤ W.drew.heap.size := by show hi ≤ W.heap.size; omega
      have hWd : W.drew.heap.size = w.heap.size + 1 + 1 + 1 := hWs
      have n1 : w.heap.size + 1 + 1 ≠ w.heap.size := by omega
      have n2 : w.heap.size + 1 + 1 ≠ w.heap.size + 1 := by omega
      go_region_held3 (fun w' => w'.cell? ⟨w.heap.size, 0, none⟩ = some (.slice A 4 c) ∧ w'.cell? ⟨w.heap.size, 1, none⟩ = some (.slice D 6 d) ∧ w'.cell? ⟨w.heap.size + 1, 0, none⟩ = some (.int .i64 k) ∧ w'.cell? ⟨w.heap.size + 1, 1, none⟩ = some (.int .i64 a) ∧ w'.cell? ⟨w.heap.size + 1, 2, none⟩ = some (.int .i64 b) ∧ w'.cell? ⟨w.heap.size + 1, 3, none⟩ = some (.int .i64 cc) ∧ w'.cell? ⟨w.heap.size + 1, 4, none⟩ = some (.bool t))
        (first | go_keep | trivial)
        (first
          | (go_at_call 28; with_reducible refine h5.out.mono ?_; rintro e w1 ⟨v, rfl, hOS, hb⟩; obtain ⟨V, cs, rfl, hcs, hRow, hblk⟩ := hOS.shape; have hO1 := hO0.below hb (Nat.le_refl _); have hs1 := hb.size; obtain ⟨hc1, hf1⟩ := bcell hb; have ib0 := (hc1 _ 0 hW1).trans db0; have ib1 := (hc1 _ 1 hW1).trans db1; have ic0 := (hc1 _ 0 hW2).trans dc0; have ic1 := (hc1 _ 1 hW2).trans dc1; have ic2 := (hc1 _ 2 hW2).trans dc2; have ic3 := (hc1 _ 3 hW2).trans dc3; have ic4 := (hc1 _ 4 hW2).trans dc4; have iq0 := (hc1 _ 0 hW3).trans dq0; have iq1 := (hc1 _ 1 hW3).trans dq1; have iq2 := (hf1 _ 0 hW3).trans dq2; have iq3 := (hf1 _ 1 hW3).trans dq3; have hA1 := hAd.trans (S' := fun _ => False) (Agr.of_below hb) (fun b hb e => absurd e id); clear hb hc1 hf1)
          | (go_at_call 27; with_reducible refine (spec_l12To s xs cc t A D V c d cs lo hi _ HS.out hff.out (by omega) (by omega) hO1 hRow (fun b hb => by have := hblk b hb; omega)).mono ?_; rintro e w2 ⟨rfl, hO2, hA2⟩; have kb0 := (hA2.cell (b := w.heap.size) (by omega) (by omega) 0).trans ib0; have kb1 := (hA2.cell (b := w.heap.size) (by omega) (by omega) 1).trans ib1; have kc0 := (hA2.cell (b := w.heap.size + 1) (by omega) (by omega) 0).trans ic0; have kc1 := (hA2.cell (b := w.heap.size + 1) (by omega) (by omega) 1).trans ic1; have kc2 := (hA2.cell (b := w.heap.size + 1) (by omega) (by omega) 2).trans ic2; have kc3 := (hA2.cell (b := w.heap.size + 1) (by omega) (by omega) 3).trans ic3; have kc4 := (hA2.cell (b := w.heap.size + 1) (by omega) (by omega) 4).trans ic4; have kq0 := (hA2.cell (b := w.heap.size + 1 + 1) (by omega) (by omega) 0).trans iq0; have kq1 := (hA2.cell (b := w.heap.size + 1 + 1) (by omega) (by omega) 1).trans iq1; have kq2 := (hA2.fz (b := w.heap.size + 1 + 1) (by omega) (by omega) 0).trans iq2; have kq3 := (hA2.fz (b := w.heap.size + 1 + 1) (by omega) (by omega) 1).trans iq3))
      have hA3 := hA1.trans hA2 (fun b _ hb => hb)
      have hs2 := hA2.size
      clear hA1 hA2 hAd hAW
      go_wp2
      refine bodyPost_ret (v := .agg #[.slice A 4 c, .slice D 6 d]) (by simp [results, Tryz.results14, go_sem, kq0, kq1]) rfl ⟨rfl, ?_, ?_⟩
      · rw [h3.out]
        refine hO2.keep fun y _ h2 _ => ?_
        rw [Below.heap_setCell _ _ _ _ (by show y ≠ w.heap.size + 1 + 1; omega), Below.heap_setCell _ _ _ _ (by show y ≠ w.heap.size + 1 + 1; omega)]
      · exact (hA3.setCell (.inl (by show w.heap.size ≤ w.heap.size + 1 + 1; omega)) _).setCell (.inl (by show w.heap.size ≤ w.heap.size + 1 + 1; omega)) _
end Go.Proofs.YtohkoogmbfaceaaGreat
namespace Go.Proofs.YtohkoogmbfaceaaGreat
set_option linter.unusedVariables false
set_option linter.unusedSimpArgs false
open Go.RowKit Go.Maps
set_option maxHeartbeats 400000
def sm (x : Int) : Prop := -1 ≤ x ∧ x ≤ 1000
end Go.Proofs.YtohkoogmbfaceaaGreat
namespace Go.Proofs.YtohkoogmbfaceaaGreat
set_option linter.unusedVariables false
set_option linter.unusedSimpArgs false
open Go.RowKit Go.Maps
set_option maxHeartbeats 400000
end Go.Proofs.YtohkoogmbfaceaaGreat
namespace Go.Proofs.YtohkoogmbfaceaaGreat
set_option linter.unusedVariables false
set_option linter.unusedSimpArgs false
open Go.RowKit Go.Maps
set_option maxHeartbeats 400000
/-- a row of events of one's own, in a block from base on -/
def OwnE (w : World) (base : Nat) (v : Value) (xs : List Ev) : Prop := w.ownsRow base 40 5 v xs.length (evs xs)
theorem OwnE.below {w w' : World} {base B : Nat} {v : Value} {xs : List Ev} (h : OwnE w base v xs) (hb : Below B w w') (hB : w.heap.size ≤ B) : OwnE w' base v xs := ownsRow_keep h fun b _ hl => hb.block b (by omega)
theorem OwnE.agr {w w' : World} {base : Nat} {v : Value} {xs : List Ev} {S : Nat → Prop} (h : OwnE w base v xs) (hb : Agr S w w') (hS : ∀ b, base ≤ b → ¬ S b) : OwnE w' base v xs := by
  refine ownsRow_keep h fun b hbl hl => hb.block b hl (hS b ?_)
  exact (World.ownsRow.lt h b hbl).1
theorem OwnE.mono {w : World} {base base' : Nat} {v : Value} {xs : List Ev} (h : OwnE w base v xs) (hb : base' ≤ base) : OwnE w base' v xs := World.ownsRow.mono h hb
theorem OwnE.nil (w : World) (base : Nat) (hb : base ≤ w.heap.size) : OwnE (w.alloc (.cells #[] 40)) base (.slice (some ⟨w.heap.size, 0, none⟩) 0 0) [] := World.ownsRow_lit w #[] 0 hb (by unfold maxLen; omega) rfl
theorem OwnE.snoc {w : World} {base g n c : Nat} {xs : List Ev} {x : Ev} (hn : n = xs.length + 1) (h : w.ownsRow base 40 5 (.slice (some ⟨g, 0, none⟩) (xs.length + 1) c) (xs.length + 1) (evs xs ++ x.vs)) : OwnE w base (.slice (some ⟨g, 0, none⟩) n c) (xs ++ [x]) := by
  subst hn
  unfold OwnE
  rw [List.length_append, evs, List.flatMap_append, show [x].flatMap Ev.vs = x.vs by simp]
  exact h
theorem OwnE.alloc {w : World} {base : Nat} {v : Value} {xs : List Ev} (h : OwnE w base v xs) (o : Obj) : OwnE (w.alloc o) base v xs := h.below (B := w.heap.size) ((Below.refl _ _).alloc (Nat.le_refl _) _) (Nat.le_refl _)
end Go.Proofs.YtohkoogmbfaceaaGreat
namespace Go.Proofs.YtohkoogmbfaceaaGreat
set_option linter.unusedVariables false
set_option linter.unusedSimpArgs false
open Go.RowKit Go.Maps
set_option maxHeartbeats 400000
theorem Row.drop {w : World} {b o : Nat} {vs : List Value} (h : Row w (some ⟨b, o, none⟩) vs) (k : Nat) : Row w (some ⟨b, o + k, none⟩) (vs.drop k) := fun hn => by
  obtain ⟨b', o', he, hc⟩ := h (by rintro rfl; simp at hn)
  cases he
  refine ⟨b, o + k, rfl, fun j u hj => ?_⟩
  rw [List.getElem?_drop] at hj
  have := hc (k + j) u hj
  rwa [← Nat.add_assoc] at this
/-- block i's pages lie in the same block of memory as before -/
theorem Apt.same {lo hi i : Nat} {A : Option Addr} {hs : List (Option Addr × Nat)} {x y : Option Addr × Nat} (h : Apt lo hi A hs) (hy : hs[i]? = some y) (hx : ∀ b, blk x.1 b → blk y.1 b) : Apt lo hi A (hs.set i x) := by
  have hl := (List.getElem?_eq_some_iff.1 hy).1
  have key : ∀ (j : Nat) (z : Option Addr × Nat) (b : Nat), (hs.set i x)[j]? = some z → blk z.1 b → ∃ z', hs[j]? = some z' ∧ blk z'.1 b := fun j z b hz hb => by
    by_cases hj : j = i
    · subst hj
      rw [List.getElem?_set_self hl] at hz
      cases hz
      exact ⟨y, hy, hx b hb⟩
    · rw [List.getElem?_set_ne (by omega)] at hz
      exact ⟨z, hz, hb⟩
  refine ⟨h.top, fun j z b hz hb => ?_, fun j m z u b hz hu h1 h2 => ?_⟩
  · obtain ⟨z', a1, a2⟩ := key j z b hz hb
    exact h.in_ j z' b a1 a2
  · obtain ⟨z', a1, a2⟩ := key j z b hz h1
    obtain ⟨u', b1, b2⟩ := key m u b hu h2
    exact h.two j m z' u' b a1 b1 a2 b2
theorem Bks.reader {w w' : World} {A : Option Addr} {f : List Bk} {hs : List (Option Addr × Nat)} {R lo hi : Nat} (h : Bks w A f hs) (ha : Agr (· = R) w w') (hApt : Apt lo hi A hs) (hR : R < lo) : Bks w' A f hs :=
  h.keep fun b hb hl => ha.block b hl (fun e => by
    subst e
    rcases hb with hb | ⟨x, hx, hb⟩
    · have := hApt.top _ hb; omega
    · obtain ⟨i, hi'⟩ := List.getElem?_of_mem hx
      have := hApt.in_ i x _ hi' hb; omega)
end Go.Proofs.YtohkoogmbfaceaaGreat
namespace Go.Proofs.YtohkoogmbfaceaaGreat
set_option linter.unusedVariables false
set_option linter.unusedSimpArgs false
open Go.RowKit Go.Maps
set_option maxHeartbeats 400000
/-- a code that can be read -/
structure Code (w : World) (A : Option Addr) (bs : List Nat) (c : Nat) : Prop where
  len : bs.length ≤ c
  cap : c ≤ 9223372036854775807
  byte : ∀ b ∈ bs, b < 256
  row : RRow w A (bytes bs)
end Go.Proofs.YtohkoogmbfaceaaGreat
namespace Go.Proofs.YtohkoogmbfaceaaGreat
set_option linter.unusedVariables false
set_option linter.unusedSimpArgs false
open Go.RowKit Go.Maps
set_option maxHeartbeats 400000
end Go.Proofs.YtohkoogmbfaceaaGreat
namespace Go.Proofs.YtohkoogmbfaceaaGreat
set_option linter.unusedVariables false
set_option linter.unusedSimpArgs false
open Go.RowKit Go.Maps
set_option maxHeartbeats 400000
theorem wiped_b {f : List Bk} {i : Nat} {b : Bk} (h : f[i]? = some b) (t : Bool) : (wipe f i t)[i]? = some ⟨List.replicate 4 (if t then ⟨2, rc0⟩ else pg0), b.worn + 1⟩ := by
  rw [wipe_at (List.getElem?_eq_some_iff.1 h).1 t, List.getD_eq_getElem?_getD, h]; rfl
theorem getD_of {f : List Bk} {i : Nat} {b : Bk} (h : f[i]? = some b) : f.getD i zbk = b := by rw [List.getD_eq_getElem?_getD, h]; rfl
end Go.Proofs.YtohkoogmbfaceaaGreat
namespace Go.Proofs.YtohkoogmbfaceaaGreat
set_option linter.unusedVariables false
set_option linter.unusedSimpArgs false
open Go.RowKit Go.Maps
set_option maxHeartbeats 400000
theorem flFine_of {f : List Bk} (h : flashOk f = true) : flFine f := by
  have h2 := blocksGo_true (f := f) (seen := []) (by unfold flashOk at h; simp at h; exact h.2)
  exact ⟨flashOk_len h, fun b hb => ⟨(flashOk_shape h b hb).1, (flashOk_shape h b hb).2.1, (flashOk_shape h b hb).2.2, (h2 b hb).2⟩⟩
theorem mostPs_max : ∀ (ps : List Pg) (n m : Int), mostPs (max n m) ps = max n (mostPs m ps)
  | [], _, _ => rfl
  | p :: ps, n, m => by
    show mostPs (max (max n m) p.rc.seq) ps = max n (mostPs (max m p.rc.seq) ps)
    rw [show max (max n m) p.rc.seq = max n (max m p.rc.seq) by omega]
    exact mostPs_max ps n _
theorem clean_seq {p : Pg} (h : pageOk p = true) (h1 : p.state ≠ 1) : p.rc.seq = 0 := by
  unfold pageOk at h
  rw [if_neg h1] at h
  split at h
  · have : p.rc = rc0 := by simpa using h
    rw [this]; rfl
  · cases h
theorem tag_fold : ∀ (ps : List Pg) (i j : Nat) (n : Int), (∀ p ∈ ps, pageOk p = true) → 0 ≤ n → (tagFrom i j ps).foldl bigStep n = mostPs n ps ∧ 0 ≤ mostPs n ps
  | [], _, _, _, _, h => ⟨rfl, h⟩
  | p :: ps, i, j, n, hp, h => by
    have hs : bigStep n (i, j, p) = max n p.rc.seq := by
      unfold bigStep
      dsimp only
      split
      · rfl
      · rename_i h1
        have := clean_seq (hp p (List.mem_cons_self ..)) h1
        omega
    have ih := tag_fold ps i (j + 1) (max n p.rc.seq) (fun q hq => hp q (List.mem_cons_of_mem _ hq)) (by omega)
    rw [tagFrom, List.foldl_cons, hs]
    exact ih
theorem all_fold : ∀ (f : List Bk) (i : Nat) (n : Int), (∀ b ∈ f, ∀ p ∈ b.pages, pageOk p = true) → 0 ≤ n → (allFrom i f).foldl bigStep n = f.foldl (fun n b => max n (most b)) n
  | [], _, _, _, _ => rfl
  | b :: f, i, n, hp, h => by
    obtain ⟨h1, h2⟩ := tag_fold b.pages i 0 n (hp b (List.mem_cons_self ..)) h
    rw [allFrom, List.foldl_append, h1, List.foldl_cons]
    have h3 : mostPs n b.pages = max n (most b) := by
      have := mostPs_max b.pages n 0
      rw [show max n 0 = n by omega] at this
      exact this
    rw [← h3]
    exact all_fold f (i + 1) _ (fun c hc => hp c (List.mem_cons_of_mem _ hc)) h2
theorem findNext_eq {f : List Bk} (h : flashOk f = true) : findNext f = next f := by
  unfold findNext next topSeq bigOf
  rw [if_pos h, all_fold f 0 0 (flFine_pages (flFine_of h)) (by omega)]
end Go.Proofs.YtohkoogmbfaceaaGreat
namespace Go.Proofs.YtohkoogmbfaceaaGreat
set_option linter.unusedVariables false
set_option linter.unusedSimpArgs false
theorem mem_seqsP {q : Int} {ps : List Pg} : q ∈ seqsP ps ↔ ∃ p ∈ ps, p.state = 1 ∧ p.rc.seq = q := by
  unfold seqsP
  rw [List.mem_map]
  constructor
  · rintro ⟨p, hp, rfl⟩
    rw [List.mem_filter] at hp
    exact ⟨p, hp.1, by simpa using hp.2, rfl⟩
  · rintro ⟨p, hp, h1, rfl⟩
    exact ⟨p, List.mem_filter.2 ⟨hp, by simpa using h1⟩, rfl⟩
theorem mem_seqsF {q : Int} {f : List Bk} : q ∈ seqsF f ↔ ∃ b ∈ f, q ∈ seqsP b.pages := by unfold seqsF; rw [List.mem_flatMap]
theorem seqIn_iff {f : List Bk} {s : Int} : seqIn f s = true ↔ s ∈ seqsF f := by
  rw [mem_seqsF]
  unfold seqIn
  rw [List.any_eq_true]
  constructor
  · rintro ⟨b, hb, h⟩
    rw [List.any_eq_true] at h
    obtain ⟨p, hp, h⟩ := h
    unfold hasSeq at h
    rw [Bool.and_eq_true, decide_eq_true_iff, decide_eq_true_iff] at h
    exact ⟨b, hb, mem_seqsP.2 ⟨p, hp, h.1, h.2⟩⟩
  · rintro ⟨b, hb, h⟩
    obtain ⟨p, hp, h1, h2⟩ := mem_seqsP.1 h
    refine ⟨b, hb, List.any_eq_true.2 ⟨p, hp, ?_⟩⟩
    unfold hasSeq
    rw [Bool.and_eq_true, decide_eq_true_iff, decide_eq_true_iff]
    exact ⟨h1, h2⟩
/-- two blocks' numbers are apart -/
theorem seqs_apart : ∀ {f : List Bk}, (seqsF f).Nodup → ∀ {i j : Nat} {a b : Bk} {q : Int}, i ≠ j → f[i]? = some a → f[j]? = some b → q ∈ seqsP a.pages → q ∉ seqsP b.pages
  | [], _, i, j, a, b, q, _, h1, _, _ => by simp at h1
  | c :: f, hn, i, j, a, b, q, hij, h1, h2, hq => by
    rw [show seqsF (c :: f) = seqsP c.pages ++ seqsF f from by simp [seqsF], List.nodup_append] at hn
    obtain ⟨n1, n2, n3⟩ := hn
    intro hq2
    cases i with
    | zero =>
      rw [List.getElem?_cons_zero, Option.some.injEq] at h1
      subst h1
      cases j with
      | zero => exact hij rfl
      | succ j =>
        rw [List.getElem?_cons_succ] at h2
        exact n3 q hq q (mem_seqsF.2 ⟨b, List.mem_of_getElem? h2, hq2⟩) rfl
    | succ i =>
      rw [List.getElem?_cons_succ] at h1
      cases j with
      | zero =>
        rw [List.getElem?_cons_zero, Option.some.injEq] at h2
        subst h2
        exact n3 q hq2 q (mem_seqsF.2 ⟨a, List.mem_of_getElem? h1, hq⟩) rfl
      | succ j =>
        rw [List.getElem?_cons_succ] at h2
        exact seqs_apart n2 (fun e => hij (by rw [e])) h1 h2 hq hq2
theorem mostPs_spec : ∀ (ps : List Pg) (n : Int), (∀ p ∈ ps, pageOk p = true) → 0 ≤ n → n ≤ mostPs n ps ∧ (∀ q ∈ seqsP ps, q ≤ mostPs n ps) ∧ (mostPs n ps = n ∨ mostPs n ps ∈ seqsP ps)
  | [], n, _, _ => ⟨by unfold mostPs; simp, fun q h => by simp [seqsP] at h, .inl rfl⟩
  | p :: ps, n, hp, h => by
    have ho := hp p (List.mem_cons_self ..)
    obtain ⟨i1, i2, i3⟩ := mostPs_spec ps (max n p.rc.seq) (fun q hq => hp q (List.mem_cons_of_mem _ hq)) (by omega)
    have he : mostPs n (p :: ps) = mostPs (max n p.rc.seq) ps := rfl
    rw [he, seqsP_cons]
    by_cases h1 : p.state = 1
    · rw [if_pos h1]
      refine ⟨by omega, fun q hq => ?_, ?_⟩
      · rcases List.mem_cons.1 hq with rfl | hq
        · omega
        · exact i2 q hq
      · rcases i3 with i3 | i3
        · rw [i3]
          by_cases hm : n ≤ p.rc.seq
          · right; rw [show max n p.rc.seq = p.rc.seq by omega]; exact List.mem_cons_self ..
          · left; omega
        · exact .inr (List.mem_cons_of_mem _ i3)
    · rw [if_neg h1]
      have := clean_seq ho h1
      rw [show max n p.rc.seq = n by omega] at *
      exact ⟨i1, i2, i3⟩
theorem seq_pos {ps : List Pg} (hp : ∀ p ∈ ps, pageOk p = true) {q : Int} (hq : q ∈ seqsP ps) : 1 ≤ q ∧ q ≤ 600 := by
  obtain ⟨p, h, h1, rfl⟩ := mem_seqsP.1 hq
  have := recOk_addr (rec_of_written (hp p h) h1)
  omega
theorem leastPs_spec : ∀ (ps : List Pg) (n : Int), (∀ p ∈ ps, pageOk p = true) → 0 ≤ n →
    (ps.foldl leastStep n = n ∧ (n = 0 → seqsP ps = []) ∨ ps.foldl leastStep n ∈ seqsP ps) ∧ (∀ q ∈ seqsP ps, ps.foldl leastStep n ≤ q) ∧ (0 < n → 0 < ps.foldl leastStep n ∧ ps.foldl leastStep n ≤ n) ∧ 0 ≤ ps.foldl leastStep n
  | [], n, _, h => ⟨.inl ⟨rfl, fun _ => rfl⟩, fun q hq => by simp [seqsP] at hq, fun h => ⟨h, Int.le_refl _⟩, h⟩
  | p :: ps, n, hp, h => by
    have ho := hp p (List.mem_cons_self ..)
    have hps := fun q hq => hp q (List.mem_cons_of_mem _ hq)
    rw [List.foldl_cons, seqsP_cons]
    by_cases h1 : p.state = 1
    · have hr := recOk_addr (rec_of_written ho h1)
      rw [if_pos h1]
      unfold leastStep
      by_cases hc : 0 < p.rc.seq ∧ (n = 0 ∨ p.rc.seq < n)
      · rw [if_pos hc]
        obtain ⟨i1, i2, i3, i4⟩ := leastPs_spec ps p.rc.seq hps (by omega)
        have i5 := i3 (by omega)
        unfold leastStep at *
        refine ⟨.inr ?_, fun q hq => ?_, fun h0 => ⟨i5.1, by omega⟩, i4⟩
        · rcases i1 with ⟨i1, _⟩ | i1
          · rw [i1]; exact List.mem_cons_self ..
          · exact List.mem_cons_of_mem _ i1
        · rcases List.mem_cons.1 hq with rfl | hq
          · exact i5.2
          · exact i2 q hq
      · rw [if_neg hc]
        obtain ⟨i1, i2, i3, i4⟩ := leastPs_spec ps n hps h
        have h0 : 0 < n := by
          by_cases h0 : 0 < n
          · exact h0
          · exact absurd ⟨by omega, .inl (by omega)⟩ hc
        have i5 := i3 h0
        unfold leastStep at *
        refine ⟨?_, fun q hq => ?_, i3, i4⟩
        · rcases i1 with ⟨i1, _⟩ | i1
          · exact .inl ⟨i1, fun e => by omega⟩
          · exact .inr (List.mem_cons_of_mem _ i1)
        · rcases List.mem_cons.1 hq with rfl | hq
          · have : ¬ p.rc.seq < n := fun e => hc ⟨by omega, .inr e⟩
            omega
          · exact i2 q hq
    · rw [if_neg h1]
      have h0 := clean_seq ho h1
      have : leastStep n p = n := by unfold leastStep; rw [if_neg (by rintro ⟨h, _⟩; omega)]
      rw [this]
      exact leastPs_spec ps n hps h
/-- the greatest and the least number of a block -/
theorem most_le {b : Bk} (hp : ∀ p ∈ b.pages, pageOk p = true) {q : Int} (hq : q ∈ seqsP b.pages) : q ≤ most b := (mostPs_spec b.pages 0 hp (Int.le_refl _)).2.1 q hq
theorem most_mem {b : Bk} (hp : ∀ p ∈ b.pages, pageOk p = true) (h : 0 < most b) : most b ∈ seqsP b.pages := by
  rcases (mostPs_spec b.pages 0 hp (Int.le_refl _)).2.2 with h1 | h1
  · have : most b = 0 := h1
    omega
  · exact h1
theorem most_nn {b : Bk} (hp : ∀ p ∈ b.pages, pageOk p = true) : 0 ≤ most b := (mostPs_spec b.pages 0 hp (Int.le_refl _)).1
theorem least_le {b : Bk} (hp : ∀ p ∈ b.pages, pageOk p = true) {q : Int} (hq : q ∈ seqsP b.pages) : least b ≤ q := (leastPs_spec b.pages 0 hp (Int.le_refl _)).2.1 q hq
theorem least_mem {b : Bk} (hp : ∀ p ∈ b.pages, pageOk p = true) (h : 0 < most b) : least b ∈ seqsP b.pages := by
  have hm := most_mem hp h
  rcases (leastPs_spec b.pages 0 hp (Int.le_refl _)).1 with ⟨_, h2⟩ | h2
  · rw [h2 rfl] at hm; cases hm
  · exact h2
theorem least_most {b : Bk} (hp : ∀ p ∈ b.pages, pageOk p = true) (h : 0 < most b) : 0 < least b ∧ least b ≤ most b :=
  ⟨by have := seq_pos hp (least_mem hp h); omega, most_le hp (least_mem hp h)⟩
theorem most_none {b : Bk} (hp : ∀ p ∈ b.pages, pageOk p = true) (h : seqsP b.pages = []) : most b = 0 := by
  have h0 := most_nn hp
  by_cases hm : 0 < most b
  · have := most_mem hp hm
    rw [h] at this; cases this
  · omega
/-! ### a page written -/
theorem four {α : Type} {l : List α} (h : l.length = 4) : ∃ a b c d, l = [a, b, c, d] := by
  match l, h with
  | [a, b, c, d], _ => exact ⟨a, b, c, d, rfl⟩
theorem shape_put {ps : List Pg} (h4 : ps.length = 4) (hs : shapeGo false ps = true) {q : Pg} (hq : q.state ≠ 0) (hc : ps.countP isClean ≠ 0) :
    shapeGo false (ps.set (4 - ps.countP isClean) q) = true ∧ (∃ p, ps[4 - ps.countP isClean]? = some p ∧ p.state = 0) ∧ (ps.set (4 - ps.countP isClean) q).countP isClean + 1 = ps.countP isClean := by
  obtain ⟨a, b, c, d, rfl⟩ := four h4
  by_cases ha : a.state = 0 <;> by_cases hb : b.state = 0 <;> by_cases hc' : c.state = 0 <;> by_cases hd : d.state = 0 <;>
    simp [shapeGo, isClean, List.countP_cons, ha, hb, hc', hd, hq] at hs hc ⊢
theorem seqsP_put : ∀ (ps : List Pg) (k : Nat) (p q : Pg), ps[k]? = some p → p.state ≠ 1 → q.state = 1 → (seqsP (ps.set k q)).Perm (q.rc.seq :: seqsP ps)
  | [], k, p, q, h, _, _ => by simp at h
  | a :: ps, 0, p, q, h, h1, hq => by
    rw [List.getElem?_cons_zero, Option.some.injEq] at h
    subst h
    rw [List.set_cons_zero, seqsP_cons, seqsP_cons, if_pos hq, if_neg h1]
  | a :: ps, k + 1, p, q, h, h1, hq => by
    rw [List.getElem?_cons_succ] at h
    have ih := seqsP_put ps k p q h h1 hq
    rw [List.set_cons_succ, seqsP_cons, seqsP_cons]
    split
    · exact (ih.cons _).trans (List.Perm.swap _ _ _)
    · exact ih
theorem seqsP_torn : ∀ (ps : List Pg) (k : Nat) (p q : Pg), ps[k]? = some p → p.state ≠ 1 → q.state ≠ 1 → seqsP (ps.set k q) = seqsP ps
  | [], k, p, q, h, _, _ => by simp at h
  | a :: ps, 0, p, q, h, h1, hq => by
    rw [List.getElem?_cons_zero, Option.some.injEq] at h
    subst h
    rw [List.set_cons_zero, seqsP_cons, seqsP_cons, if_neg hq, if_neg h1]
  | a :: ps, k + 1, p, q, h, h1, hq => by
    rw [List.getElem?_cons_succ] at h
    have ih := seqsP_torn ps k p q h h1 hq
    rw [List.set_cons_succ, seqsP_cons, seqsP_cons, ih]
theorem seqsF_put : ∀ (f : List Bk) (i : Nat) (b c : Bk) (xs : List Int), f[i]? = some b → (seqsP c.pages).Perm (xs ++ seqsP b.pages) → (seqsF (f.set i c)).Perm (xs ++ seqsF f)
  | [], i, b, c, xs, h, _ => by simp at h
  | a :: f, 0, b, c, xs, h, hc => by
    rw [List.getElem?_cons_zero, Option.some.injEq] at h
    subst h
    rw [List.set_cons_zero, show seqsF (c :: f) = seqsP c.pages ++ seqsF f from by simp [seqsF], show seqsF (a :: f) = seqsP a.pages ++ seqsF f from by simp [seqsF], ← List.append_assoc]
    exact hc.append_right _
  | a :: f, i + 1, b, c, xs, h, hc => by
    rw [List.getElem?_cons_succ] at h
    have ih := seqsF_put f i b c xs h hc
    rw [List.set_cons_succ, show seqsF (a :: f.set i c) = seqsP a.pages ++ seqsF (f.set i c) from by simp [seqsF], show seqsF (a :: f) = seqsP a.pages ++ seqsF f from by simp [seqsF]]
    refine (ih.append_left _).trans ?_
    rw [← List.append_assoc, ← List.append_assoc]
    exact List.perm_append_comm.append_right _
/-- the page that a record leaves -/
def putPg (r : Rc) (torn : Bool) : Pg := if torn then ⟨2, rc0⟩ else ⟨1, r⟩
def putBk (b : Bk) (r : Rc) (torn : Bool) : Bk := { b with pages := b.pages.set (4 - clean b) (putPg r torn) }
theorem putPg_ok {r : Rc} (h : recOk r = true) (torn : Bool) : pageOk (putPg r torn) = true ∧ (putPg r torn).state ≠ 0 := by
  cases torn
  · exact ⟨put_ok h, by show (1 : Int) ≠ 0; decide⟩
  · exact ⟨torn_ok, by show (2 : Int) ≠ 0; decide⟩
theorem bk_parts {f : List Bk} (h : flashOk f = true) {b : Bk} (hb : b ∈ f) : b.pages.length = 4 ∧ (0 ≤ b.worn ∧ b.worn ≤ 200) ∧ shapeGo false b.pages = true ∧ ∀ p ∈ b.pages, pageOk p = true := by
  obtain ⟨h1, h2⟩ := ((flashOk_iff f).1 h).2.1 b hb
  unfold blockShape at h1
  rw [Bool.and_eq_true, Bool.and_eq_true, Bool.and_eq_true, decide_eq_true_iff, decide_eq_true_iff, decide_eq_true_iff] at h1
  exact ⟨h1.1, ⟨h1.2.1, h1.2.2.1⟩, h1.2.2.2, h2⟩
theorem putBk_parts {f : List Bk} (h : flashOk f = true) {b : Bk} (hb : b ∈ f) {r : Rc} (hr : recOk r = true) (torn : Bool) (hc : clean b ≠ 0) :
    blockShape (putBk b r torn) = true ∧ (∀ p ∈ (putBk b r torn).pages, pageOk p = true) ∧ clean (putBk b r torn) + 1 = clean b ∧
    (torn = true → seqsP (putBk b r torn).pages = seqsP b.pages) ∧ (torn = false → (seqsP (putBk b r torn).pages).Perm ([r.seq] ++ seqsP b.pages)) := by
  obtain ⟨h1, h2, h3, h4⟩ := bk_parts h hb
  obtain ⟨p1, p2⟩ := putPg_ok hr torn
  obtain ⟨s1, ⟨p, hp, hp0⟩, s3⟩ := shape_put h1 h3 p2 hc
  refine ⟨?_, fun q hq => ?_, s3, ?_, ?_⟩
  · unfold blockShape putBk
    rw [Bool.and_eq_true, Bool.and_eq_true, Bool.and_eq_true, decide_eq_true_iff, decide_eq_true_iff, decide_eq_true_iff]
    exact ⟨by rw [List.length_set]; exact h1, h2.1, h2.2, s1⟩
  · rcases List.mem_or_eq_of_mem_set hq with hq | rfl
    · exact h4 q hq
    · exact p1
  · rintro rfl
    exact seqsP_torn _ _ p _ hp (by omega) (by show (2 : Int) ≠ 1; decide)
  · rintro rfl
    exact seqsP_put _ _ p _ hp (by omega) rfl
theorem put_ok4 {f : List Bk} (h : flashOk f = true) {i : Nat} {b : Bk} (hb : f[i]? = some b) {r : Rc} (hr : recOk r = true) (torn : Bool) (hc : clean b ≠ 0) (hs : seqIn f r.seq ≠ true) : flashOk (f.set i (putBk b r torn)) = true := by
  obtain ⟨k1, k2, _, k4, k5⟩ := putBk_parts h (List.mem_of_getElem? hb) hr torn hc
  replace hs : r.seq ∉ seqsF f := fun e => hs (seqIn_iff.2 e)
  rw [flashOk_iff] at h ⊢
  obtain ⟨a, b', c⟩ := h
  refine ⟨by simpa using a, fun x hx => ?_, ?_⟩
  · rcases List.mem_or_eq_of_mem_set hx with hx | rfl
    · exact b' x hx
    · exact ⟨k1, k2⟩
  · cases torn
    · exact (seqsF_put f i b _ [r.seq] hb (k5 rfl)).nodup_iff.2 (List.nodup_cons.2 ⟨hs, c⟩)
    · exact (seqsF_put f i b _ [] hb (by rw [k4 rfl]; exact List.Perm.refl _)).nodup_iff.2 c
end Go.Proofs.YtohkoogmbfaceaaGreat
