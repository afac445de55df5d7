/- What the laws' walks share: words, plain laws, and the walks of functions, part 3. -/
import Derived.Test.YtbekihiiildgmaaW2
namespace Go.Proofs.Ytbekihiiildgmaa
set_option linter.unusedVariables false
set_option linter.unusedSimpArgs false
open Go.RowKit Go.Shelf
attribute [local go_sem] Oper.semAt_some
set_option maxHeartbeats 400000
abbrev Sub (n : Nat) := { x : PgAt // x.1 < n }
theorem eachPageS_stops (F : Fence) (n : Nat) (hF : F.fn 141) (hro : F.round = none) (hn : 1 ≤ n) (Bs n₀ g o c : Nat) (f : List Bk) (hs : List (Option Addr × Nat)) (w : World) (hB : Bs < w.heap.size) (hn₀ : n₀ ≤ w.heap.size)
    (hBs : w.cell? ⟨Bs, 0, none⟩ = some (.slice (some ⟨g, o, none⟩) f.length c)) (hl : f.length < 1000000000000) (hp : ∀ b ∈ f, b.pages.length < 1000000000000)
    (hBk : Bks w (some ⟨g, o, none⟩) f hs) (hlow : ∀ b, fblk (some ⟨g, o, none⟩) hs b → b < n₀) :
    SeqStopsK F n Try.prog 141 #[.pointer (some ⟨Bs, 0, none⟩)] (fun x : Sub f.length => encP x.1) (Below n₀) (fun ys => ys.map Subtype.val = allFrom 0 f) (fun pre => pre.map Subtype.val <+: allFrom 0 f) (allFrom 0 f).length w := fun l J Jx W hW hJ _ hY h0 => by
  refine (eachPage1_in F n hF hro hn l Bs n₀ g o c f hs (fun pre V => ∃ pre' : List (Sub f.length), pre'.map Subtype.val = pre ∧ J pre' V) (fun pre V => ∃ pre' : List (Sub f.length), pre'.map Subtype.val = pre ∧ Jx pre' V) W (Nat.le_trans hn₀ hW.size)
    (fun s X Y row hs hg hr => by obtain ⟨p, e, h⟩ := hs; exact ⟨p, e, hJ p X Y row h hg hr⟩) (fun pre x W1 h1 h2 h3 => ?_) ((hW.cell (p := ⟨Bs, 0, none⟩) hB).trans hBs) hl hp (hBk.keep fun q hq hl => hW.block q (by omega)) hlow ⟨[], rfl, h0⟩).mono ?_
  · obtain ⟨pre', rfl, hj⟩ := h1
    refine (hY pre' ⟨x, h3.1⟩ W1 hj (by simpa using h2)).mono ?_
    rintro e V (⟨rfl, hj2, hk⟩ | ⟨rfl, hj2⟩)
    · exact .inl ⟨rfl, ⟨_, by simp, hj2⟩, hk⟩
    · exact .inr ⟨rfl, _, by simp, hj2⟩
  · rintro e V ⟨he, ⟨ys, rfl, pre', h1, h2⟩ | ⟨pre, h0, pre', rfl, h2⟩⟩
    · exact ⟨he, .inl ⟨pre', h1, h2⟩⟩
    · exact ⟨he, .inr ⟨pre', h0, h2⟩⟩
abbrev Span := Int × Int
def Spn (s : Span) : List Value := [.int .i64 s.1, .int .i64 s.2]
def spv (ss : List Span) : List Value := ss.flatMap Spn
def lowOf (s : Span) (q : Int) : Int := if s.1 = 0 ∨ q < s.1 then q else s.1
def spStep (ss : List Span) (x : PgAt) : List Span := if x.2.2.state = 1 then ss.set x.1 (lowOf (ss.getD x.1 (0, 0)) x.2.2.rc.seq, max (ss.getD x.1 (0, 0)).2 x.2.2.rc.seq) else ss
def spOf (pre : List PgAt) : List Span := pre.foldl spStep (List.replicate 4 (0, 0))
theorem spOf_snoc (pre : List PgAt) (x : PgAt) : spOf (pre ++ [x]) = spStep (spOf pre) x := by unfold spOf; rw [List.foldl_append]; rfl
theorem spStep_len (ss : List Span) (x : PgAt) : (spStep ss x).length = ss.length := by unfold spStep; split <;> simp
theorem spOf_len (pre : List PgAt) : (spOf pre).length = 4 := by
  have : ∀ (pre : List PgAt) (ss : List Span), (pre.foldl spStep ss).length = ss.length := by
    intro pre
    induction pre with
    | nil => intro ss; rfl
    | cons x pre ih => intro ss; rw [List.foldl_cons, ih, spStep_len]
  rw [spOf, this]; rfl
theorem row_own (A : Option Addr) (vs : List Value) (n₀ : Nat) : OwnFrom n₀ (fun (_ : Unit) W => Row W A vs) := fun _ X Y row hs hg hr hn => by
  obtain ⟨b, o, rfl, hc⟩ := hs hn
  exact ⟨b, o, rfl, fun j u hj => ⟨cell_kept (hc j u hj).1 hg (fun r e => (hr r e).2), (frozen_kept (hc j u hj).1 hg (fun r e => (hr r e).2)).trans (hc j u hj).2⟩⟩
theorem Row.span {w : World} {b k : Nat} {ss : List Span} {s : Span} (h : Row w (some ⟨b, 0, none⟩) (spv ss)) (hk : ss[k]? = some s) :
    w.cell? ⟨b, k * 2, none⟩ = some (.int .i64 s.1) ∧ w.cell? ⟨b, k * 2 + 1, none⟩ = some (.int .i64 s.2) ∧ w.frozen? ⟨b, k * 2, none⟩ = false ∧ w.frozen? ⟨b, k * 2 + 1, none⟩ = false := by
  have hne : spv ss ≠ [] := by
    intro e
    cases ss with
    | nil => simp at hk
    | cons a ss => simp [spv, Spn] at e
  obtain ⟨b', o', he, hc⟩ := h hne
  cases he
  have hg : ∀ j u, (Spn s)[j]? = some u → j < 2 → w.cell? ⟨b, 0 + (k * 2 + j), none⟩ = some u ∧ w.frozen? ⟨b, 0 + (k * 2 + j), none⟩ = false := fun j u hj hl => hc (k * 2 + j) u (by rw [spv, flat_get _ 2 (fun _ => rfl) ss k j s hk hl]; exact hj)
  have h0 := hg 0 _ rfl (by omega)
  have h1 := hg 1 _ rfl (by omega)
  rw [Nat.zero_add] at h0 h1
  exact ⟨h0.1, h1.1, h0.2, h1.2⟩
theorem spv_set : ∀ (ss : List Span) (k : Nat) (s : Span), k < ss.length → spv (ss.set k s) = setL (spv ss) (k * 2) (Spn s)
  | [], k, s, h => by simp at h
  | q :: ss, 0, s, _ => by simp [spv, Spn, setL]
  | q :: ss, k + 1, s, h => by
    have ih := spv_set ss k s (by simpa using h)
    rw [List.set_cons_succ]
    show Spn q ++ spv (ss.set k s) = setL (Spn q ++ spv ss) _ _
    rw [ih, show (k + 1) * 2 = (Spn q).length + k * 2 by simp [Spn]; omega, setL_right]
theorem spv_len (ss : List Span) : (spv ss).length = ss.length * 2 := flat_len _ 2 (fun _ => rfl) ss
theorem make_spans (w : World) : (Instr.makeSlice 141 (.int .i64 4) (.int .i64 4)).run Try.prog w = .ok (.slice (some ⟨w.heap.size, 0, none⟩) 4 4) (w.alloc (.cells #[.int .i64 0, .int .i64 0, .int .i64 0, .int .i64 0, .int .i64 0, .int .i64 0, .int .i64 0, .int .i64 0] 144)) := by kernel_rfl
set_option maxRecDepth 100000 in
set_option maxHeartbeats 4000000 in
theorem impl_spansOf (f : List Bk) (hs : List (Option Addr × Nat)) (g o c : Nat) (w : World) (hl : f.length = 4) (hp : ∀ b ∈ f, b.pages.length = 4) (hBk : Bks w (some ⟨g, o, none⟩) f hs) (hlow : ∀ b, fblk (some ⟨g, o, none⟩) hs b → b < w.heap.size) :
    Calls Try.prog 117 #[.slice (some ⟨g, o, none⟩) 4 c] w fun e w' => ∃ b, e = .returned (.slice (some ⟨b, 0, none⟩) 4 4) ∧ w.heap.size ≤ b ∧ Row w' (some ⟨b, 0, none⟩) (spv (spOf (allFrom 0 f))) ∧ Below w.heap.size w w' := by
  refine (callsIn_wide (n := 6)).1 ?_
  refine callsIn_of_wp_marks Try.func117 rfl trivial ?_ rfl
  simp only [Try.ntmps117, List.size_toArray, List.length_cons, List.length_nil, Nat.reduceAdd, Nat.reduceSub, Array.replicate_succ, Array.replicate_zero, List.push_toArray, List.append_toArray, List.nil_append, List.cons_append]
  have hmk := make_spans
  have HL := Lib.hid hl
  have HP := Lib.hid hp
  clear hl hp
  gi_wp2_with (first | (refine ⟨trivial, ?_⟩; gi_at_call 94; refine (eachPage_in Fence.wide _ trivial rfl _ _ _ _).mono ?_; rintro e w2 ⟨rfl, rfl⟩))
  have hsz : ((((w.alloc (.cells #[.int .i64 0, .int .i64 0, .int .i64 0, .int .i64 0, .int .i64 0, .int .i64 0, .int .i64 0, .int .i64 0] 144)).alloc (.cells #[.slice (some ⟨w.heap.size, 0, none⟩) 4 4] 141)).alloc (.cells #[.slice (some ⟨g, o, none⟩) 4 c] 23))).heap.size = w.heap.size + 3 := by simp
  have bV := (Boxed.new (w.alloc (.cells #[.int .i64 0, .int .i64 0, .int .i64 0, .int .i64 0, .int .i64 0, .int .i64 0, .int .i64 0, .int .i64 0] 144)) 141 (.slice (some ⟨w.heap.size, 0, none⟩) 4 4)).alloc (.cells #[.slice (some ⟨g, o, none⟩) 4 c] 23)
  have bA := Boxed.new ((w.alloc (.cells #[.int .i64 0, .int .i64 0, .int .i64 0, .int .i64 0, .int .i64 0, .int .i64 0, .int .i64 0, .int .i64 0] 144)).alloc (.cells #[.slice (some ⟨w.heap.size, 0, none⟩) 4 4] 141)) 23 (.slice (some ⟨g, o, none⟩) 4 c)
  simp only [World.size_alloc] at bV bA
  have hR0 : Row _ _ (spv (spOf [])) := ((Row.new w #[.int .i64 0, .int .i64 0, .int .i64 0, .int .i64 0, .int .i64 0, .int .i64 0, .int .i64 0, .int .i64 0] 144).alloc (.cells #[.slice (some ⟨w.heap.size, 0, none⟩) 4 4] 141)).alloc (.cells #[.slice (some ⟨g, o, none⟩) 4 c] 23)
  have hBk0 := ((hBk.alloc (.cells #[.int .i64 0, .int .i64 0, .int .i64 0, .int .i64 0, .int .i64 0, .int .i64 0, .int .i64 0, .int .i64 0] 144)).alloc (.cells #[.slice (some ⟨w.heap.size, 0, none⟩) 4 4] 141)).alloc (.cells #[.slice (some ⟨g, o, none⟩) 4 c] 23)
  have hB0 : Below w.heap.size w (((w.alloc (.cells #[.int .i64 0, .int .i64 0, .int .i64 0, .int .i64 0, .int .i64 0, .int .i64 0, .int .i64 0, .int .i64 0] 144)).alloc (.cells #[.slice (some ⟨w.heap.size, 0, none⟩) 4 4] 141)).alloc (.cells #[.slice (some ⟨g, o, none⟩) 4 c] 23)) := (((Below.refl _ w).alloc (Nat.le_refl _) _).alloc (by simp) _).alloc (by simp; omega) _
  obtain ⟨W0, hW0⟩ : ∃ W0, ((w.alloc (.cells #[.int .i64 0, .int .i64 0, .int .i64 0, .int .i64 0, .int .i64 0, .int .i64 0, .int .i64 0, .int .i64 0] 144)).alloc (.cells #[.slice (some ⟨w.heap.size, 0, none⟩) 4 4] 141)).alloc (.cells #[.slice (some ⟨g, o, none⟩) 4 c] 23) = W0 := ⟨_, rfl⟩
  rw [hW0] at bV bA hR0 hB0 hsz hBk0 ⊢
  clear hW0 hmk
  have hcA : W0.cell? ⟨w.heap.size + 1 + 1, 0, none⟩ = some (.slice (some ⟨g, o, none⟩) f.length c) := by rw [HL.out]; exact bA.cell
  refine wpIn_rangeFunc_ownH rfl (by omega) (gf := 141) (lb := #[.pointer (some ⟨w.heap.size + 1 + 1, 0, none⟩)]) rfl trivial (enters_of Try.func141 (by kernel_rfl) rfl)
    (eachPageS_stops Fence.wide _ trivial rfl (by omega) (w.heap.size + 1 + 1) w.heap.size g o c f hs W0 (by omega) (by omega) hcA (by rw [HL.out]; omega) (fun b hb => by rw [HP.out b hb]; omega) hBk0 hlow) belowK_t (belowK_b (by omega)) (Below.refl _ _) (fun _ => rfl)
    (fun pre W => (Boxed W (w.heap.size + 1) 141 (.slice (some ⟨w.heap.size, 0, none⟩) 4 4) ∧ Row W (some ⟨w.heap.size, 0, none⟩) (spv (spOf (pre.map Subtype.val)))) ∧ Below w.heap.size w W)
    (fun _ _ _ => False)
    (OwnFrom.and (OwnFrom.and (Own.from (boxed_own _ _ (fun _ => _)) _) (fun pre X Y row h hg hr => row_own _ _ _ () X Y row h hg hr)) (ownFrom_below (Nat.le_refl _) (by omega)))
    (fun _ _ _ _ _ hs _ _ => hs)
    ⟨⟨bV, hR0⟩, hB0⟩
    (fun x a' W => ∃ B4 B5, w.heap.size + 1 < B4 ∧ w.heap.size + 1 < B5 ∧ Laid W B4 117 #[.int .i64 (x.1.1 : Int), .int .i64 (x.1.2.1 : Int)] ∧ Laid W B5 119 (pgv x.1.2.2) ∧ a' = { tmps := #[.slice (some ⟨g, o, none⟩) 4 c, undef, .slice none 0 0, .pointer (some ⟨w.heap.size + 1, 0, none⟩), .pointer (some ⟨B4, 0, none⟩), .pointer (some ⟨B5, 0, none⟩), undef, .slice (some ⟨g, o, none⟩) 4 c, .int .i64 4, .slice (some ⟨w.heap.size, 0, none⟩) 4 4, .slice (some ⟨g, o, none⟩) 4 c, .func (.func 141) #[] #[.pointer (some ⟨w.heap.size + 1 + 1, 0, none⟩)], .agg #[.int .i64 (x.1.1 : Int), .int .i64 (x.1.2.1 : Int)], .agg (pgv x.1.2.2), undef, undef, undef, undef, undef, undef, undef, undef, undef, undef, undef, undef, undef, undef, undef, undef, undef, undef, undef, undef, undef, undef, undef, undef, undef, undef, undef, undef, undef, undef, undef, undef, undef, undef, undef, undef, undef, undef, undef, undef], defers := [] })
    (fun x a' _ X Y row hs hg hr => by obtain ⟨B4, B5, h1, h2, h3, h4, h5⟩ := hs; exact ⟨B4, B5, h1, h2, laid_own B4 _ _ _ () X Y row h3 hg hr, laid_own B5 _ _ _ () X Y row h4 hg hr, h5⟩)
    ?assign ?body ?done ?stop
  case assign =>
    rintro l pre x W K ⟨⟨bV1, hR1⟩, hB1⟩ hK
    dsimp only [encP]
    gi_wp2
    have hlt := bV1.lt
    exact hK _ _ (((KeepsOthers.alloc _ _).trans (KeepsOthers.alloc _ _)).from _) (((Below.refl _ W).alloc hB1.size _).alloc (by simp; omega) _) ⟨⟨(bV1.alloc _).alloc _, (hR1.alloc _).alloc _⟩, (hB1.alloc hB1.size _).alloc (by simp; omega) _⟩ ⟨W.heap.size, W.heap.size + 1, hlt, by omega, (Below.heap_alloc _ _ _ (by simp)).trans (World.alloc_heap_new W _), by have := World.alloc_heap_new (W.alloc (.cells #[.int .i64 (x.1.1 : Int), .int .i64 (x.1.2.1 : Int)] 117)) (.cells (pgv x.1.2.2) 119); rwa [World.size_alloc] at this, rfl⟩
  case body =>
    rintro l pre x a' W hl ⟨r, hr⟩ ⟨⟨bV1, hR1⟩, hB1⟩ ⟨B4, B5, h4, h5, L4, L5, rfl⟩ hlt
    have hx4 : x.1.1 < 4 := Nat.lt_of_lt_of_eq x.2 HL.out
    have hlen := spOf_len (pre.map Subtype.val)
    have hst : Hid (spOf ((pre ++ [x]).map Subtype.val) = spStep (spOf (pre.map Subtype.val)) x.1) := by rw [Hid, List.map_append]; exact spOf_snoc _ _
    generalize spOf (pre.map Subtype.val) = ss at *
    obtain ⟨sp, hsp⟩ := get_some (l := ss) (k := x.1.1) (by omega)
    have hgd : ss.getD x.1.1 (0, 0) = sp := by rw [List.getD_eq_getElem?_getD, hsp]; rfl
    obtain ⟨l0, l1, l2, l3⟩ := hR1.span hsp
    have cV := bV1.cell
    have x0 : W.cell? ⟨B5, 0, none⟩ = some (.int .i64 x.1.2.2.state) := L5.cell 0 rfl
    have x2 : W.cell? ⟨B5, 2, none⟩ = some (.int .i64 x.1.2.2.rc.seq) := L5.cell 2 rfl
    have s0 : W.cell? ⟨B4, 0, none⟩ = some (.int .i64 (x.1.1 : Int)) := L4.cell 0 rfl
    have hx4' : (x.1.1 : Int) < 4 := by omega
    by_cases h1 : x.1.2.2.state = 1
    · have hst2 : Hid (spOf ((pre ++ [x]).map Subtype.val) = ss.set x.1.1 (lowOf sp x.1.2.2.rc.seq, max sp.2 x.1.2.2.rc.seq)) := by rw [Hid, hst.out]; unfold spStep; rw [if_pos h1, hgd]
      have hrow : ∀ Wf : World, Wrote W Wf w.heap.size (x.1.1 * 2) (Spn (lowOf sp x.1.2.2.rc.seq, max sp.2 x.1.2.2.rc.seq)) → Row Wf (some ⟨w.heap.size, 0, none⟩) (spv (spOf ((pre ++ [x]).map Subtype.val))) := fun Wf hW => by
        rw [hst2.out, spv_set _ _ _ (by omega)]
        exact Wrote.row (o := 0) (by rw [Nat.zero_add]; exact hW) hR1 (by rw [spv_len]; simp [Spn]; omega)
      have HROW := Lib.hid hrow
      rw [h1] at x0
      clear hrow hst hst2 hgd hsp h1
      by_cases hz : sp.1 = 0
      · have hlo : Hid (lowOf sp x.1.2.2.rc.seq = x.1.2.2.rc.seq) := by unfold Hid lowOf; rw [if_pos (.inl hz)]
        rw [hz] at l0
        clear hz
        gi_wp2
        refine region_round_held (S := fun w' => w'.cell? ⟨w.heap.size, x.1.1 * 2, none⟩ = some (.int .i64 0) ∧ w'.cell? ⟨B5, 2, none⟩ = some (.int .i64 x.1.2.2.rc.seq)) (by kernel_rfl) (by kernel_rfl) ⟨l0, x2⟩ (fun hHeld => ?_)
        refine wpAnyH_take (i := 0) (v := ?va10) rfl (by kernel_rfl) (by kernel_rfl) (by kernel_rfl) (fun _ _ _ h => h) (Or.inl ⟨by rfl, ?ya10⟩) hHeld ?ra10
        case ya10 => (intro w' hS; (try dsimp only at hS); obtain ⟨s0, s1⟩ := hS; (try go_simp); (try with_reducible rfl))
        try simp only [Act.put, jA, jB, jC, jD, jE, jF]
        refine wpAnyH_take (i := 1) (v := ?va11) rfl (by kernel_rfl) (by kernel_rfl) (by kernel_rfl) (fun _ _ _ h => h) (Or.inl ⟨by rfl, ?ya11⟩) hHeld ?ra11
        case ya11 => (intro w' hS; (try dsimp only at hS); obtain ⟨s0, s1⟩ := hS; (try go_simp); (try with_reducible rfl))
        try simp only [Act.put, jA, jB, jC, jD, jE, jF]
        refine wpAnyH_take (i := 2) (v := ?va12) rfl (by kernel_rfl) (by kernel_rfl) (by kernel_rfl) (fun _ _ _ h => h) (Or.inl ⟨by rfl, ?ya12⟩) hHeld ?ra12
        case ya12 => (intro w' hS; (try dsimp only at hS); obtain ⟨s0, s1⟩ := hS; (try go_simp); (try with_reducible rfl))
        try simp only [Act.put, jA, jB, jC, jD, jE, jF]
        refine wpAnyH_take (i := 3) (v := ?va13) rfl (by kernel_rfl) (by kernel_rfl) (by kernel_rfl) (fun _ _ _ h => h) (Or.inl ⟨by rfl, ?ya13⟩) hHeld ?ra13
        case ya13 => (intro w' hS; (try dsimp only at hS); obtain ⟨s0, s1⟩ := hS; (try go_simp); (try with_reducible rfl))
        try simp only [Act.put, jA, jB, jC, jD, jE, jF]
        refine wpAnyH_take (i := 4) (v := ?va14) rfl (by kernel_rfl) (by kernel_rfl) (by kernel_rfl) (fun _ _ _ h => h) (Or.inl ⟨by rfl, ?ya14⟩) hHeld ?ra14
        case ya14 => (intro w' hS; (try dsimp only at hS); obtain ⟨s0, s1⟩ := hS; (try go_simp); (try with_reducible rfl))
        try simp only [Act.put, jA, jB, jC, jD, jE, jF]
        refine wpAnyH_take (i := 5) (v := ?va15) rfl (by kernel_rfl) (by kernel_rfl) (by kernel_rfl) (fun _ _ _ h => h) (Or.inl ⟨by rfl, ?ya15⟩) hHeld ?ra15
        case ya15 => (intro w' hS; (try dsimp only at hS); obtain ⟨s0, s1⟩ := hS; (try go_simp); (try with_reducible rfl))
        try simp only [Act.put, jA, jB, jC, jD, jE, jF]
        refine wpAnyH_take (i := 6) (v := undef) rfl (by kernel_rfl) (by kernel_rfl) (by kernel_rfl) (fun _ _ _ h => h) (Or.inr ⟨by rfl, rfl⟩) hHeld ?_
        try simp only [Act.put, jA, jB, jC, jD, jE, jF]
        refine wpAnyH_take (i := 7) (v := undef) rfl (by kernel_rfl) (by kernel_rfl) (by kernel_rfl) (fun _ _ _ h => h) (Or.inr ⟨by rfl, rfl⟩) hHeld ?_
        try simp only [Act.put, jA, jB, jC, jD, jE, jF]
        refine wpAnyH_take (i := 8) (v := undef) rfl (by kernel_rfl) (by kernel_rfl) (by kernel_rfl) (fun _ _ _ h => h) (Or.inr ⟨by rfl, rfl⟩) hHeld ?_
        try simp only [Act.put, jA, jB, jC, jD, jE, jF]
        refine wpAnyH_take (i := 9) (v := undef) rfl (by kernel_rfl) (by kernel_rfl) (by kernel_rfl) (fun _ _ _ h => h) (Or.inr ⟨by rfl, rfl⟩) hHeld ?_
        try simp only [Act.put, jA, jB, jC, jD, jE, jF]
        refine wpAnyH_take (i := 10) (v := undef) rfl (by kernel_rfl) (by kernel_rfl) (by kernel_rfl) (fun _ _ _ h => h) (Or.inr ⟨by rfl, rfl⟩) hHeld ?_
        try simp only [Act.put, jA, jB, jC, jD, jE, jF]
        refine wpAnyH_take (i := 11) (v := undef) rfl (by kernel_rfl) (by kernel_rfl) (by kernel_rfl) (fun _ _ _ h => h) (Or.inr ⟨by rfl, rfl⟩) hHeld ?_
        try simp only [Act.put, jA, jB, jC, jD, jE, jF]
        refine wpAnyH_take (i := 12) (v := undef) rfl (by kernel_rfl) (by kernel_rfl) (by kernel_rfl) (fun _ _ _ h => h) (Or.inr ⟨by rfl, rfl⟩) hHeld ?_
        try simp only [Act.put, jA, jB, jC, jD, jE, jF]
        refine wpAnyH_take (i := 13) (v := undef) rfl (by kernel_rfl) (by kernel_rfl) (by kernel_rfl) (fun _ _ _ h => h) (Or.inr ⟨by rfl, rfl⟩) hHeld ?_
        try simp only [Act.put, jA, jB, jC, jD, jE, jF]
        refine wpAnyH_take (i := 14) (v := ?va114) rfl (by kernel_rfl) (by kernel_rfl) (by kernel_rfl) (fun _ _ _ h => h) (Or.inl ⟨by rfl, ?ya114⟩) hHeld ?ra114
        case ya114 => (intro w' hS; (try dsimp only at hS); obtain ⟨s0, s1⟩ := hS; (try go_simp); (try with_reducible rfl))
        try simp only [Act.put, jA, jB, jC, jD, jE, jF]
        refine wpAnyH_done (by kernel_rfl) ?_ _
        simp only [OnlyNormal]
        gi_wp2
        by_cases hmx : sp.2 < x.1.2.2.rc.seq
        · have hmv : Hid (max sp.2 x.1.2.2.rc.seq = x.1.2.2.rc.seq) := by unfold Hid; omega
          refine region_round (by kernel_rfl) (by kernel_rfl) ?_
          refine wpAny_take (i := 0) (v := ?vb20) rfl (by kernel_rfl) (by kernel_rfl) (by kernel_rfl) (fun _ _ _ h => h) (Or.inl ⟨by rfl, ?yb20⟩) ?rb20
          case yb20 => (intro w'; (try go_simp); (try with_reducible rfl))
          try simp only [Act.put, jA, jB, jC, jD, jE, jF]
          refine wpAny_take (i := 1) (v := ?vb21) rfl (by kernel_rfl) (by kernel_rfl) (by kernel_rfl) (fun _ _ _ h => h) (Or.inl ⟨by rfl, ?yb21⟩) ?rb21
          case yb21 => (intro w'; (try go_simp); (try with_reducible rfl))
          try simp only [Act.put, jA, jB, jC, jD, jE, jF]
          refine wpAny_take (i := 2) (v := ?vb22) rfl (by kernel_rfl) (by kernel_rfl) (by kernel_rfl) (fun _ _ _ h => h) (Or.inl ⟨by rfl, ?yb22⟩) ?rb22
          case yb22 => (intro w'; (try go_simp); (try with_reducible rfl))
          try simp only [Act.put, jA, jB, jC, jD, jE, jF]
          refine wpAny_take (i := 3) (v := ?vb23) rfl (by kernel_rfl) (by kernel_rfl) (by kernel_rfl) (fun _ _ _ h => h) (Or.inl ⟨by rfl, ?yb23⟩) ?rb23
          case yb23 => (intro w'; (try go_simp); (try with_reducible rfl))
          try simp only [Act.put, jA, jB, jC, jD, jE, jF]
          refine wpAny_take (i := 5) (v := ?vb25) rfl (by kernel_rfl) (by kernel_rfl) (by kernel_rfl) (fun _ _ _ h => h) (Or.inl ⟨by rfl, ?yb25⟩) ?rb25
          case yb25 => (intro w'; (try go_simp); (try with_reducible rfl))
          try simp only [Act.put, jA, jB, jC, jD, jE, jF]
          refine wpAny_take (i := 6) (v := ?vb26) rfl (by kernel_rfl) (by kernel_rfl) (by kernel_rfl) (fun _ _ _ h => h) (Or.inl ⟨by rfl, ?yb26⟩) ?rb26
          case yb26 => (intro w'; (try go_simp); (try with_reducible rfl))
          try simp only [Act.put, jA, jB, jC, jD, jE, jF]
          refine wpAny_ready (rs := [4, 7]) (by kernel_rfl) (by simp) ?_
          refine AllReady.cons rfl (fun K hK => ?_) (AllReady.cons rfl (fun K hK => ?_) AllReady.nil)
          · go_simp
            refine hK _ _ ?_
            clear hK K
            try simp only [Act.put, jA, jB, jC, jD, jE, jF]
            refine wpAny_ready (rs := [7]) (by kernel_rfl) (by simp) ?_
            refine AllReady.cons rfl (fun K hK => ?_) AllReady.nil
            go_simp
            refine hK _ _ ?_
            clear hK K
            try simp only [Act.put, jA, jB, jC, jD, jE, jF]
            refine wpAny_take (i := 8) (v := ?vb28x4) rfl (by kernel_rfl) (by kernel_rfl) (by kernel_rfl) (fun _ _ _ h => h) (Or.inl ⟨by rfl, ?yb28x4⟩) ?rb28x4
            case yb28x4 => (intro w'; (try go_simp); (try with_reducible rfl))
            try simp only [Act.put, jA, jB, jC, jD, jE, jF]
            refine wpAny_take (i := 9) (v := ?vb29x4) rfl (by kernel_rfl) (by kernel_rfl) (by kernel_rfl) (fun _ _ _ h => h) (Or.inl ⟨by rfl, ?yb29x4⟩) ?rb29x4
            case yb29x4 => (intro w'; (try go_simp); (try with_reducible rfl))
            try simp only [Act.put, jA, jB, jC, jD, jE, jF]
            refine wpAny_take (i := 10) (v := ?vb210x4) rfl (by kernel_rfl) (by kernel_rfl) (by kernel_rfl) (fun _ _ _ h => h) (Or.inl ⟨by rfl, ?yb210x4⟩) ?rb210x4
            case yb210x4 => (intro w'; (try go_simp); (try with_reducible rfl))
            try simp only [Act.put, jA, jB, jC, jD, jE, jF]
            refine wpAny_ready (rs := [11]) (by kernel_rfl) (by simp) ?_
            refine AllReady.cons rfl (fun K hK => ?_) AllReady.nil
            go_simp
            refine hK _ _ ?_
            clear hK K
            try simp only [Act.put, jA, jB, jC, jD, jE, jF]
            refine wpAny_done (by kernel_rfl) ?_ _
            simp only [OnlyNormal]
            have hW : Wrote W ((W.setCell ⟨w.heap.size, x.1.1 * 2, none⟩ (.int .i64 x.1.2.2.rc.seq)).setCell ⟨w.heap.size, x.1.1 * 2 + 1, none⟩ (.int .i64 x.1.2.2.rc.seq)) w.heap.size (x.1.1 * 2) (Spn (lowOf sp x.1.2.2.rc.seq, max sp.2 x.1.2.2.rc.seq)) := by
              rw [hlo.out, hmv.out]
              exact wrote_setRow w.heap.size [.int .i64 x.1.2.2.rc.seq, .int .i64 x.1.2.2.rc.seq] (x.1.1 * 2) W (fun j hj => by
                match j, hj with
                | 0, _ => exact ⟨_, l0⟩
                | 1, _ => exact ⟨_, l1⟩)
            have hBL : Below w.heap.size W ((W.setCell ⟨w.heap.size, x.1.1 * 2, none⟩ (.int .i64 x.1.2.2.rc.seq)).setCell ⟨w.heap.size, x.1.1 * 2 + 1, none⟩ (.int .i64 x.1.2.2.rc.seq)).drew.drew := ((((Below.refl w.heap.size W).setCell (p := ⟨w.heap.size, x.1.1 * 2, none⟩) (Nat.le_refl _) (.int .i64 x.1.2.2.rc.seq)).setCell (p := ⟨w.heap.size, x.1.1 * 2 + 1, none⟩) (Nat.le_refl _) (.int .i64 x.1.2.2.rc.seq)).drew).drew
            have hBX : Boxed ((W.setCell ⟨w.heap.size, x.1.1 * 2, none⟩ (.int .i64 x.1.2.2.rc.seq)).setCell ⟨w.heap.size, x.1.1 * 2 + 1, none⟩ (.int .i64 x.1.2.2.rc.seq)).drew.drew (w.heap.size + 1) 141 (.slice (some ⟨w.heap.size, 0, none⟩) 4 4) := (hW.block (w.heap.size + 1) (by omega)).trans bV1
            have hRW : Row ((W.setCell ⟨w.heap.size, x.1.1 * 2, none⟩ (.int .i64 x.1.2.2.rc.seq)).setCell ⟨w.heap.size, x.1.1 * 2 + 1, none⟩ (.int .i64 x.1.2.2.rc.seq)).drew.drew (some ⟨w.heap.size, 0, none⟩) (spv (spOf ((pre ++ [x]).map Subtype.val))) := (HROW.out _ hW).drew.drew
            clear hW HROW
            gi_wp2
            exact ⟨((((KeepsOthers.setCell _ _ _).trans (KeepsOthers.setCell _ _ _)).trans (KeepsOthers.drew _)).trans (KeepsOthers.drew _)).from _, hBL, ⟨hBX, hRW⟩, hB1.trans hBL⟩
          · go_simp
            refine hK _ _ ?_
            clear hK K
            try simp only [Act.put, jA, jB, jC, jD, jE, jF]
            refine wpAny_ready (rs := [4]) (by kernel_rfl) (by simp) ?_
            refine AllReady.cons rfl (fun K hK => ?_) AllReady.nil
            go_simp
            refine hK _ _ ?_
            clear hK K
            try simp only [Act.put, jA, jB, jC, jD, jE, jF]
            refine wpAny_take (i := 8) (v := ?vb28x7) rfl (by kernel_rfl) (by kernel_rfl) (by kernel_rfl) (fun _ _ _ h => h) (Or.inl ⟨by rfl, ?yb28x7⟩) ?rb28x7
            case yb28x7 => (intro w'; (try go_simp); (try with_reducible rfl))
            try simp only [Act.put, jA, jB, jC, jD, jE, jF]
            refine wpAny_take (i := 9) (v := ?vb29x7) rfl (by kernel_rfl) (by kernel_rfl) (by kernel_rfl) (fun _ _ _ h => h) (Or.inl ⟨by rfl, ?yb29x7⟩) ?rb29x7
            case yb29x7 => (intro w'; (try go_simp); (try with_reducible rfl))
            try simp only [Act.put, jA, jB, jC, jD, jE, jF]
            refine wpAny_take (i := 10) (v := ?vb210x7) rfl (by kernel_rfl) (by kernel_rfl) (by kernel_rfl) (fun _ _ _ h => h) (Or.inl ⟨by rfl, ?yb210x7⟩) ?rb210x7
            case yb210x7 => (intro w'; (try go_simp); (try with_reducible rfl))
            try simp only [Act.put, jA, jB, jC, jD, jE, jF]
            refine wpAny_ready (rs := [11]) (by kernel_rfl) (by simp) ?_
            refine AllReady.cons rfl (fun K hK => ?_) AllReady.nil
            go_simp
            refine hK _ _ ?_
            clear hK K
            try simp only [Act.put, jA, jB, jC, jD, jE, jF]
            refine wpAny_done (by kernel_rfl) ?_ _
            simp only [OnlyNormal]
            have hW : Wrote W ((W.setCell ⟨w.heap.size, x.1.1 * 2, none⟩ (.int .i64 x.1.2.2.rc.seq)).setCell ⟨w.heap.size, x.1.1 * 2 + 1, none⟩ (.int .i64 x.1.2.2.rc.seq)) w.heap.size (x.1.1 * 2) (Spn (lowOf sp x.1.2.2.rc.seq, max sp.2 x.1.2.2.rc.seq)) := by
              rw [hlo.out, hmv.out]
              exact wrote_setRow w.heap.size [.int .i64 x.1.2.2.rc.seq, .int .i64 x.1.2.2.rc.seq] (x.1.1 * 2) W (fun j hj => by
                match j, hj with
                | 0, _ => exact ⟨_, l0⟩
                | 1, _ => exact ⟨_, l1⟩)
            have hBL : Below w.heap.size W ((W.setCell ⟨w.heap.size, x.1.1 * 2, none⟩ (.int .i64 x.1.2.2.rc.seq)).setCell ⟨w.heap.size, x.1.1 * 2 + 1, none⟩ (.int .i64 x.1.2.2.rc.seq)).drew.drew := ((((Below.refl w.heap.size W).setCell (p := ⟨w.heap.size, x.1.1 * 2, none⟩) (Nat.le_refl _) (.int .i64 x.1.2.2.rc.seq)).setCell (p := ⟨w.heap.size, x.1.1 * 2 + 1, none⟩) (Nat.le_refl _) (.int .i64 x.1.2.2.rc.seq)).drew).drew
            have hBX : Boxed ((W.setCell ⟨w.heap.size, x.1.1 * 2, none⟩ (.int .i64 x.1.2.2.rc.seq)).setCell ⟨w.heap.size, x.1.1 * 2 + 1, none⟩ (.int .i64 x.1.2.2.rc.seq)).drew.drew (w.heap.size + 1) 141 (.slice (some ⟨w.heap.size, 0, none⟩) 4 4) := (hW.block (w.heap.size + 1) (by omega)).trans bV1
            have hRW : Row ((W.setCell ⟨w.heap.size, x.1.1 * 2, none⟩ (.int .i64 x.1.2.2.rc.seq)).setCell ⟨w.heap.size, x.1.1 * 2 + 1, none⟩ (.int .i64 x.1.2.2.rc.seq)).drew.drew (some ⟨w.heap.size, 0, none⟩) (spv (spOf ((pre ++ [x]).map Subtype.val))) := (HROW.out _ hW).drew.drew
            clear hW HROW
            gi_wp2
            exact ⟨((((KeepsOthers.setCell _ _ _).trans (KeepsOthers.setCell _ _ _)).trans (KeepsOthers.drew _)).trans (KeepsOthers.drew _)).from _, hBL, ⟨hBX, hRW⟩, hB1.trans hBL⟩
        · have hmv : Hid (max sp.2 x.1.2.2.rc.seq = sp.2) := by unfold Hid; omega
          refine region_round (by kernel_rfl) (by kernel_rfl) ?_
          refine wpAny_take (i := 0) (v := ?vb30) rfl (by kernel_rfl) (by kernel_rfl) (by kernel_rfl) (fun _ _ _ h => h) (Or.inl ⟨by rfl, ?yb30⟩) ?rb30
          case yb30 => (intro w'; (try go_simp); (try with_reducible rfl))
          try simp only [Act.put, jA, jB, jC, jD, jE, jF]
          refine wpAny_take (i := 1) (v := ?vb31) rfl (by kernel_rfl) (by kernel_rfl) (by kernel_rfl) (fun _ _ _ h => h) (Or.inl ⟨by rfl, ?yb31⟩) ?rb31
          case yb31 => (intro w'; (try go_simp); (try with_reducible rfl))
          try simp only [Act.put, jA, jB, jC, jD, jE, jF]
          refine wpAny_take (i := 2) (v := ?vb32) rfl (by kernel_rfl) (by kernel_rfl) (by kernel_rfl) (fun _ _ _ h => h) (Or.inl ⟨by rfl, ?yb32⟩) ?rb32
          case yb32 => (intro w'; (try go_simp); (try with_reducible rfl))
          try simp only [Act.put, jA, jB, jC, jD, jE, jF]
          refine wpAny_take (i := 3) (v := ?vb33) rfl (by kernel_rfl) (by kernel_rfl) (by kernel_rfl) (fun _ _ _ h => h) (Or.inl ⟨by rfl, ?yb33⟩) ?rb33
          case yb33 => (intro w'; (try go_simp); (try with_reducible rfl))
          try simp only [Act.put, jA, jB, jC, jD, jE, jF]
          refine wpAny_take (i := 5) (v := ?vb35) rfl (by kernel_rfl) (by kernel_rfl) (by kernel_rfl) (fun _ _ _ h => h) (Or.inl ⟨by rfl, ?yb35⟩) ?rb35
          case yb35 => (intro w'; (try go_simp); (try with_reducible rfl))
          try simp only [Act.put, jA, jB, jC, jD, jE, jF]
          refine wpAny_take (i := 6) (v := ?vb36) rfl (by kernel_rfl) (by kernel_rfl) (by kernel_rfl) (fun _ _ _ h => h) (Or.inl ⟨by rfl, ?yb36⟩) ?rb36
          case yb36 => (intro w'; (try go_simp); (try with_reducible rfl))
          try simp only [Act.put, jA, jB, jC, jD, jE, jF]
          refine wpAny_ready (rs := [4, 7]) (by kernel_rfl) (by simp) ?_
          refine AllReady.cons rfl (fun K hK => ?_) (AllReady.cons rfl (fun K hK => ?_) AllReady.nil)
          · go_simp
            refine hK _ _ ?_
            clear hK K
            try simp only [Act.put, jA, jB, jC, jD, jE, jF]
            refine wpAny_ready (rs := [7]) (by kernel_rfl) (by simp) ?_
            refine AllReady.cons rfl (fun K hK => ?_) AllReady.nil
            go_simp
            refine hK _ _ ?_
            clear hK K
            try simp only [Act.put, jA, jB, jC, jD, jE, jF]
            refine wpAny_take (i := 8) (v := ?vb38x4) rfl (by kernel_rfl) (by kernel_rfl) (by kernel_rfl) (fun _ _ _ h => h) (Or.inl ⟨by rfl, ?yb38x4⟩) ?rb38x4
            case yb38x4 => (intro w'; (try go_simp); (try with_reducible rfl))
            try simp only [Act.put, jA, jB, jC, jD, jE, jF]
            refine wpAny_take (i := 9) (v := ?vb39x4) rfl (by kernel_rfl) (by kernel_rfl) (by kernel_rfl) (fun _ _ _ h => h) (Or.inl ⟨by rfl, ?yb39x4⟩) ?rb39x4
            case yb39x4 => (intro w'; (try go_simp); (try with_reducible rfl))
            try simp only [Act.put, jA, jB, jC, jD, jE, jF]
            refine wpAny_take (i := 10) (v := ?vb310x4) rfl (by kernel_rfl) (by kernel_rfl) (by kernel_rfl) (fun _ _ _ h => h) (Or.inl ⟨by rfl, ?yb310x4⟩) ?rb310x4
            case yb310x4 => (intro w'; (try go_simp); (try with_reducible rfl))
            try simp only [Act.put, jA, jB, jC, jD, jE, jF]
            refine wpAny_ready (rs := [11]) (by kernel_rfl) (by simp) ?_
            refine AllReady.cons rfl (fun K hK => ?_) AllReady.nil
            go_simp
            refine hK _ _ ?_
            clear hK K
            try simp only [Act.put, jA, jB, jC, jD, jE, jF]
            refine wpAny_done (by kernel_rfl) ?_ _
            simp only [OnlyNormal]
            have hW : Wrote W ((W.setCell ⟨w.heap.size, x.1.1 * 2, none⟩ (.int .i64 x.1.2.2.rc.seq)).setCell ⟨w.heap.size, x.1.1 * 2 + 1, none⟩ (.int .i64 sp.2)) w.heap.size (x.1.1 * 2) (Spn (lowOf sp x.1.2.2.rc.seq, max sp.2 x.1.2.2.rc.seq)) := by
              rw [hlo.out, hmv.out]
              exact wrote_setRow w.heap.size [.int .i64 x.1.2.2.rc.seq, .int .i64 sp.2] (x.1.1 * 2) W (fun j hj => by
                match j, hj with
                | 0, _ => exact ⟨_, l0⟩
                | 1, _ => exact ⟨_, l1⟩)
            have hBL : Below w.heap.size W ((W.setCell ⟨w.heap.size, x.1.1 * 2, none⟩ (.int .i64 x.1.2.2.rc.seq)).setCell ⟨w.heap.size, x.1.1 * 2 + 1, none⟩ (.int .i64 sp.2)).drew.drew := ((((Below.refl w.heap.size W).setCell (p := ⟨w.heap.size, x.1.1 * 2, none⟩) (Nat.le_refl _) (.int .i64 x.1.2.2.rc.seq)).setCell (p := ⟨w.heap.size, x.1.1 * 2 + 1, none⟩) (Nat.le_refl _) (.int .i64 sp.2)).drew).drew
            have hBX : Boxed ((W.setCell ⟨w.heap.size, x.1.1 * 2, none⟩ (.int .i64 x.1.2.2.rc.seq)).setCell ⟨w.heap.size, x.1.1 * 2 + 1, none⟩ (.int .i64 sp.2)).drew.drew (w.heap.size + 1) 141 (.slice (some ⟨w.heap.size, 0, none⟩) 4 4) := (hW.block (w.heap.size + 1) (by omega)).trans bV1
            have hRW : Row ((W.setCell ⟨w.heap.size, x.1.1 * 2, none⟩ (.int .i64 x.1.2.2.rc.seq)).setCell ⟨w.heap.size, x.1.1 * 2 + 1, none⟩ (.int .i64 sp.2)).drew.drew (some ⟨w.heap.size, 0, none⟩) (spv (spOf ((pre ++ [x]).map Subtype.val))) := (HROW.out _ hW).drew.drew
            clear hW HROW
            gi_wp2
            exact ⟨((((KeepsOthers.setCell _ _ _).trans (KeepsOthers.setCell _ _ _)).trans (KeepsOthers.drew _)).trans (KeepsOthers.drew _)).from _, hBL, ⟨hBX, hRW⟩, hB1.trans hBL⟩
          · go_simp
            refine hK _ _ ?_
            clear hK K
            try simp only [Act.put, jA, jB, jC, jD, jE, jF]
            refine wpAny_ready (rs := [4]) (by kernel_rfl) (by simp) ?_
            refine AllReady.cons rfl (fun K hK => ?_) AllReady.nil
            go_simp
            refine hK _ _ ?_
            clear hK K
            try simp only [Act.put, jA, jB, jC, jD, jE, jF]
            refine wpAny_take (i := 8) (v := ?vb38x7) rfl (by kernel_rfl) (by kernel_rfl) (by kernel_rfl) (fun _ _ _ h => h) (Or.inl ⟨by rfl, ?yb38x7⟩) ?rb38x7
            case yb38x7 => (intro w'; (try go_simp); (try with_reducible rfl))
            try simp only [Act.put, jA, jB, jC, jD, jE, jF]
            refine wpAny_take (i := 9) (v := ?vb39x7) rfl (by kernel_rfl) (by kernel_rfl) (by kernel_rfl) (fun _ _ _ h => h) (Or.inl ⟨by rfl, ?yb39x7⟩) ?rb39x7
            case yb39x7 => (intro w'; (try go_simp); (try with_reducible rfl))
            try simp only [Act.put, jA, jB, jC, jD, jE, jF]
            refine wpAny_take (i := 10) (v := ?vb310x7) rfl (by kernel_rfl) (by kernel_rfl) (by kernel_rfl) (fun _ _ _ h => h) (Or.inl ⟨by rfl, ?yb310x7⟩) ?rb310x7
            case yb310x7 => (intro w'; (try go_simp); (try with_reducible rfl))
            try simp only [Act.put, jA, jB, jC, jD, jE, jF]
            refine wpAny_ready (rs := [11]) (by kernel_rfl) (by simp) ?_
            refine AllReady.cons rfl (fun K hK => ?_) AllReady.nil
            go_simp
            refine hK _ _ ?_
            clear hK K
            try simp only [Act.put, jA, jB, jC, jD, jE, jF]
            refine wpAny_done (by kernel_rfl) ?_ _
            simp only [OnlyNormal]
            have hW : Wrote W ((W.setCell ⟨w.heap.size, x.1.1 * 2, none⟩ (.int .i64 x.1.2.2.rc.seq)).setCell ⟨w.heap.size, x.1.1 * 2 + 1, none⟩ (.int .i64 sp.2)) w.heap.size (x.1.1 * 2) (Spn (lowOf sp x.1.2.2.rc.seq, max sp.2 x.1.2.2.rc.seq)) := by
              rw [hlo.out, hmv.out]
              exact wrote_setRow w.heap.size [.int .i64 x.1.2.2.rc.seq, .int .i64 sp.2] (x.1.1 * 2) W (fun j hj => by
                match j, hj with
                | 0, _ => exact ⟨_, l0⟩
                | 1, _ => exact ⟨_, l1⟩)
            have hBL : Below w.heap.size W ((W.setCell ⟨w.heap.size, x.1.1 * 2, none⟩ (.int .i64 x.1.2.2.rc.seq)).setCell ⟨w.heap.size, x.1.1 * 2 + 1, none⟩ (.int .i64 sp.2)).drew.drew := ((((Below.refl w.heap.size W).setCell (p := ⟨w.heap.size, x.1.1 * 2, none⟩) (Nat.le_refl _) (.int .i64 x.1.2.2.rc.seq)).setCell (p := ⟨w.heap.size, x.1.1 * 2 + 1, none⟩) (Nat.le_refl _) (.int .i64 sp.2)).drew).drew
            have hBX : Boxed ((W.setCell ⟨w.heap.size, x.1.1 * 2, none⟩ (.int .i64 x.1.2.2.rc.seq)).setCell ⟨w.heap.size, x.1.1 * 2 + 1, none⟩ (.int .i64 sp.2)).drew.drew (w.heap.size + 1) 141 (.slice (some ⟨w.heap.size, 0, none⟩) 4 4) := (hW.block (w.heap.size + 1) (by omega)).trans bV1
            have hRW : Row ((W.setCell ⟨w.heap.size, x.1.1 * 2, none⟩ (.int .i64 x.1.2.2.rc.seq)).setCell ⟨w.heap.size, x.1.1 * 2 + 1, none⟩ (.int .i64 sp.2)).drew.drew (some ⟨w.heap.size, 0, none⟩) (spv (spOf ((pre ++ [x]).map Subtype.val))) := (HROW.out _ hW).drew.drew
            clear hW HROW
            gi_wp2
            exact ⟨((((KeepsOthers.setCell _ _ _).trans (KeepsOthers.setCell _ _ _)).trans (KeepsOthers.drew _)).trans (KeepsOthers.drew _)).from _, hBL, ⟨hBX, hRW⟩, hB1.trans hBL⟩
      · have hz' : (sp.1 == 0) = false := by simpa using hz
        by_cases hq : x.1.2.2.rc.seq < sp.1
        · have hlo : Hid (lowOf sp x.1.2.2.rc.seq = x.1.2.2.rc.seq) := by unfold Hid lowOf; rw [if_pos (.inr hq)]
          gi_wp2
          refine region_round_held (S := fun w' => w'.cell? ⟨w.heap.size, x.1.1 * 2, none⟩ = some (.int .i64 sp.1) ∧ w'.cell? ⟨B5, 2, none⟩ = some (.int .i64 x.1.2.2.rc.seq)) (by kernel_rfl) (by kernel_rfl) ⟨l0, x2⟩ (fun hHeld => ?_)
          refine wpAnyH_take (i := 0) (v := ?va40) rfl (by kernel_rfl) (by kernel_rfl) (by kernel_rfl) (fun _ _ _ h => h) (Or.inl ⟨by rfl, ?ya40⟩) hHeld ?ra40
          case ya40 => (intro w' hS; (try dsimp only at hS); obtain ⟨s0, s1⟩ := hS; (try go_simp); (try with_reducible rfl))
          try simp only [Act.put, jA, jB, jC, jD, jE, jF]
          refine wpAnyH_take (i := 1) (v := ?va41) rfl (by kernel_rfl) (by kernel_rfl) (by kernel_rfl) (fun _ _ _ h => h) (Or.inl ⟨by rfl, ?ya41⟩) hHeld ?ra41
          case ya41 => (intro w' hS; (try dsimp only at hS); obtain ⟨s0, s1⟩ := hS; (try go_simp); (try with_reducible rfl))
          try simp only [Act.put, jA, jB, jC, jD, jE, jF]
          refine wpAnyH_take (i := 2) (v := ?va42) rfl (by kernel_rfl) (by kernel_rfl) (by kernel_rfl) (fun _ _ _ h => h) (Or.inl ⟨by rfl, ?ya42⟩) hHeld ?ra42
          case ya42 => (intro w' hS; (try dsimp only at hS); obtain ⟨s0, s1⟩ := hS; (try go_simp); (try with_reducible rfl))
          try simp only [Act.put, jA, jB, jC, jD, jE, jF]
          refine wpAnyH_take (i := 3) (v := ?va43) rfl (by kernel_rfl) (by kernel_rfl) (by kernel_rfl) (fun _ _ _ h => h) (Or.inl ⟨by rfl, ?ya43⟩) hHeld ?ra43
          case ya43 => (intro w' hS; (try dsimp only at hS); obtain ⟨s0, s1⟩ := hS; (try go_simp); (try with_reducible rfl))
          try simp only [Act.put, jA, jB, jC, jD, jE, jF]
          refine wpAnyH_take (i := 4) (v := ?va44) rfl (by kernel_rfl) (by kernel_rfl) (by kernel_rfl) (fun _ _ _ h => h) (Or.inl ⟨by rfl, ?ya44⟩) hHeld ?ra44
          case ya44 => (intro w' hS; (try dsimp only at hS); obtain ⟨s0, s1⟩ := hS; (try go_simp); (try with_reducible rfl))
          try simp only [Act.put, jA, jB, jC, jD, jE, jF]
          refine wpAnyH_take (i := 5) (v := ?va45) rfl (by kernel_rfl) (by kernel_rfl) (by kernel_rfl) (fun _ _ _ h => h) (Or.inl ⟨by rfl, ?ya45⟩) hHeld ?ra45
          case ya45 => (intro w' hS; (try dsimp only at hS); obtain ⟨s0, s1⟩ := hS; (try go_simp); (try with_reducible rfl))
          try simp only [Act.put, jA, jB, jC, jD, jE, jF]
          refine wpAnyH_take (i := 6) (v := ?va46) rfl (by kernel_rfl) (by kernel_rfl) (by kernel_rfl) (fun _ _ _ h => h) (Or.inl ⟨by rfl, ?ya46⟩) hHeld ?ra46
          case ya46 => (intro w' hS; (try dsimp only at hS); obtain ⟨s0, s1⟩ := hS; (try go_simp); (try with_reducible rfl))
          try simp only [Act.put, jA, jB, jC, jD, jE, jF]
          refine wpAnyH_take (i := 7) (v := ?va47) rfl (by kernel_rfl) (by kernel_rfl) (by kernel_rfl) (fun _ _ _ h => h) (Or.inl ⟨by rfl, ?ya47⟩) hHeld ?ra47
          case ya47 => (intro w' hS; (try dsimp only at hS); obtain ⟨s0, s1⟩ := hS; (try go_simp); (try with_reducible rfl))
          try simp only [Act.put, jA, jB, jC, jD, jE, jF]
          refine wpAnyH_take (i := 8) (v := ?va48) rfl (by kernel_rfl) (by kernel_rfl) (by kernel_rfl) (fun _ _ _ h => h) (Or.inl ⟨by rfl, ?ya48⟩) hHeld ?ra48
          case ya48 => (intro w' hS; (try dsimp only at hS); obtain ⟨s0, s1⟩ := hS; (try go_simp); (try with_reducible rfl))
          try simp only [Act.put, jA, jB, jC, jD, jE, jF]
          refine wpAnyH_take (i := 9) (v := ?va49) rfl (by kernel_rfl) (by kernel_rfl) (by kernel_rfl) (fun _ _ _ h => h) (Or.inl ⟨by rfl, ?ya49⟩) hHeld ?ra49
          case ya49 => (intro w' hS; (try dsimp only at hS); obtain ⟨s0, s1⟩ := hS; (try go_simp); (try with_reducible rfl))
          try simp only [Act.put, jA, jB, jC, jD, jE, jF]
          refine wpAnyH_take (i := 10) (v := ?va410) rfl (by kernel_rfl) (by kernel_rfl) (by kernel_rfl) (fun _ _ _ h => h) (Or.inl ⟨by rfl, ?ya410⟩) hHeld ?ra410
          case ya410 => (intro w' hS; (try dsimp only at hS); obtain ⟨s0, s1⟩ := hS; (try go_simp); (try with_reducible rfl))
          try simp only [Act.put, jA, jB, jC, jD, jE, jF]
          refine wpAnyH_take (i := 11) (v := ?va411) rfl (by kernel_rfl) (by kernel_rfl) (by kernel_rfl) (fun _ _ _ h => h) (Or.inl ⟨by rfl, ?ya411⟩) hHeld ?ra411
          case ya411 => (intro w' hS; (try dsimp only at hS); obtain ⟨s0, s1⟩ := hS; (try go_simp); (try with_reducible rfl))
          try simp only [Act.put, jA, jB, jC, jD, jE, jF]
          refine wpAnyH_take (i := 12) (v := ?va412) rfl (by kernel_rfl) (by kernel_rfl) (by kernel_rfl) (fun _ _ _ h => h) (Or.inl ⟨by rfl, ?ya412⟩) hHeld ?ra412
          case ya412 => (intro w' hS; (try dsimp only at hS); obtain ⟨s0, s1⟩ := hS; (try go_simp); (try with_reducible rfl))
          try simp only [Act.put, jA, jB, jC, jD, jE, jF]
          refine wpAnyH_take (i := 13) (v := ?va413) rfl (by kernel_rfl) (by kernel_rfl) (by kernel_rfl) (fun _ _ _ h => h) (Or.inl ⟨by rfl, ?ya413⟩) hHeld ?ra413
          case ya413 => (intro w' hS; (try dsimp only at hS); obtain ⟨s0, s1⟩ := hS; (try go_simp); (try with_reducible rfl))
          try simp only [Act.put, jA, jB, jC, jD, jE, jF]
          refine wpAnyH_take (i := 14) (v := ?va414) rfl (by kernel_rfl) (by kernel_rfl) (by kernel_rfl) (fun _ _ _ h => h) (Or.inl ⟨by rfl, ?ya414⟩) hHeld ?ra414
          case ya414 => (intro w' hS; (try dsimp only at hS); obtain ⟨s0, s1⟩ := hS; (try go_simp); (try with_reducible rfl))
          try simp only [Act.put, jA, jB, jC, jD, jE, jF]
          refine wpAnyH_done (by kernel_rfl) ?_ _
          simp only [OnlyNormal]
          gi_wp2
          by_cases hmx : sp.2 < x.1.2.2.rc.seq
          · have hmv : Hid (max sp.2 x.1.2.2.rc.seq = x.1.2.2.rc.seq) := by unfold Hid; omega
            refine region_round (by kernel_rfl) (by kernel_rfl) ?_
            refine wpAny_take (i := 0) (v := ?vb50) rfl (by kernel_rfl) (by kernel_rfl) (by kernel_rfl) (fun _ _ _ h => h) (Or.inl ⟨by rfl, ?yb50⟩) ?rb50
            case yb50 => (intro w'; (try go_simp); (try with_reducible rfl))
            try simp only [Act.put, jA, jB, jC, jD, jE, jF]
            refine wpAny_take (i := 1) (v := ?vb51) rfl (by kernel_rfl) (by kernel_rfl) (by kernel_rfl) (fun _ _ _ h => h) (Or.inl ⟨by rfl, ?yb51⟩) ?rb51
            case yb51 => (intro w'; (try go_simp); (try with_reducible rfl))
            try simp only [Act.put, jA, jB, jC, jD, jE, jF]
            refine wpAny_take (i := 2) (v := ?vb52) rfl (by kernel_rfl) (by kernel_rfl) (by kernel_rfl) (fun _ _ _ h => h) (Or.inl ⟨by rfl, ?yb52⟩) ?rb52
            case yb52 => (intro w'; (try go_simp); (try with_reducible rfl))
            try simp only [Act.put, jA, jB, jC, jD, jE, jF]
            refine wpAny_take (i := 3) (v := ?vb53) rfl (by kernel_rfl) (by kernel_rfl) (by kernel_rfl) (fun _ _ _ h => h) (Or.inl ⟨by rfl, ?yb53⟩) ?rb53
            case yb53 => (intro w'; (try go_simp); (try with_reducible rfl))
            try simp only [Act.put, jA, jB, jC, jD, jE, jF]
            refine wpAny_take (i := 5) (v := ?vb55) rfl (by kernel_rfl) (by kernel_rfl) (by kernel_rfl) (fun _ _ _ h => h) (Or.inl ⟨by rfl, ?yb55⟩) ?rb55
            case yb55 => (intro w'; (try go_simp); (try with_reducible rfl))
            try simp only [Act.put, jA, jB, jC, jD, jE, jF]
            refine wpAny_take (i := 6) (v := ?vb56) rfl (by kernel_rfl) (by kernel_rfl) (by kernel_rfl) (fun _ _ _ h => h) (Or.inl ⟨by rfl, ?yb56⟩) ?rb56
            case yb56 => (intro w'; (try go_simp); (try with_reducible rfl))
            try simp only [Act.put, jA, jB, jC, jD, jE, jF]
            refine wpAny_ready (rs := [4, 7]) (by kernel_rfl) (by simp) ?_
            refine AllReady.cons rfl (fun K hK => ?_) (AllReady.cons rfl (fun K hK => ?_) AllReady.nil)
            · go_simp
              refine hK _ _ ?_
              clear hK K
              try simp only [Act.put, jA, jB, jC, jD, jE, jF]
              refine wpAny_ready (rs := [7]) (by kernel_rfl) (by simp) ?_
              refine AllReady.cons rfl (fun K hK => ?_) AllReady.nil
              go_simp
              refine hK _ _ ?_
              clear hK K
              try simp only [Act.put, jA, jB, jC, jD, jE, jF]
              refine wpAny_take (i := 8) (v := ?vb58x4) rfl (by kernel_rfl) (by kernel_rfl) (by kernel_rfl) (fun _ _ _ h => h) (Or.inl ⟨by rfl, ?yb58x4⟩) ?rb58x4
              case yb58x4 => (intro w'; (try go_simp); (try with_reducible rfl))
              try simp only [Act.put, jA, jB, jC, jD, jE, jF]
              refine wpAny_take (i := 9) (v := ?vb59x4) rfl (by kernel_rfl) (by kernel_rfl) (by kernel_rfl) (fun _ _ _ h => h) (Or.inl ⟨by rfl, ?yb59x4⟩) ?rb59x4
              case yb59x4 => (intro w'; (try go_simp); (try with_reducible rfl))
              try simp only [Act.put, jA, jB, jC, jD, jE, jF]
              refine wpAny_take (i := 10) (v := ?vb510x4) rfl (by kernel_rfl) (by kernel_rfl) (by kernel_rfl) (fun _ _ _ h => h) (Or.inl ⟨by rfl, ?yb510x4⟩) ?rb510x4
              case yb510x4 => (intro w'; (try go_simp); (try with_reducible rfl))
              try simp only [Act.put, jA, jB, jC, jD, jE, jF]
              refine wpAny_ready (rs := [11]) (by kernel_rfl) (by simp) ?_
              refine AllReady.cons rfl (fun K hK => ?_) AllReady.nil
              go_simp
              refine hK _ _ ?_
              clear hK K
              try simp only [Act.put, jA, jB, jC, jD, jE, jF]
              refine wpAny_done (by kernel_rfl) ?_ _
              simp only [OnlyNormal]
              have hW : Wrote W ((W.setCell ⟨w.heap.size, x.1.1 * 2, none⟩ (.int .i64 x.1.2.2.rc.seq)).setCell ⟨w.heap.size, x.1.1 * 2 + 1, none⟩ (.int .i64 x.1.2.2.rc.seq)) w.heap.size (x.1.1 * 2) (Spn (lowOf sp x.1.2.2.rc.seq, max sp.2 x.1.2.2.rc.seq)) := by
                rw [hlo.out, hmv.out]
                exact wrote_setRow w.heap.size [.int .i64 x.1.2.2.rc.seq, .int .i64 x.1.2.2.rc.seq] (x.1.1 * 2) W (fun j hj => by
                  match j, hj with
                  | 0, _ => exact ⟨_, l0⟩
                  | 1, _ => exact ⟨_, l1⟩)
              have hBL : Below w.heap.size W ((W.setCell ⟨w.heap.size, x.1.1 * 2, none⟩ (.int .i64 x.1.2.2.rc.seq)).setCell ⟨w.heap.size, x.1.1 * 2 + 1, none⟩ (.int .i64 x.1.2.2.rc.seq)).drew.drew := ((((Below.refl w.heap.size W).setCell (p := ⟨w.heap.size, x.1.1 * 2, none⟩) (Nat.le_refl _) (.int .i64 x.1.2.2.rc.seq)).setCell (p := ⟨w.heap.size, x.1.1 * 2 + 1, none⟩) (Nat.le_refl _) (.int .i64 x.1.2.2.rc.seq)).drew).drew
              have hBX : Boxed ((W.setCell ⟨w.heap.size, x.1.1 * 2, none⟩ (.int .i64 x.1.2.2.rc.seq)).setCell ⟨w.heap.size, x.1.1 * 2 + 1, none⟩ (.int .i64 x.1.2.2.rc.seq)).drew.drew (w.heap.size + 1) 141 (.slice (some ⟨w.heap.size, 0, none⟩) 4 4) := (hW.block (w.heap.size + 1) (by omega)).trans bV1
              have hRW : Row ((W.setCell ⟨w.heap.size, x.1.1 * 2, none⟩ (.int .i64 x.1.2.2.rc.seq)).setCell ⟨w.heap.size, x.1.1 * 2 + 1, none⟩ (.int .i64 x.1.2.2.rc.seq)).drew.drew (some ⟨w.heap.size, 0, none⟩) (spv (spOf ((pre ++ [x]).map Subtype.val))) := (HROW.out _ hW).drew.drew
              clear hW HROW
              gi_wp2
              exact ⟨((((KeepsOthers.setCell _ _ _).trans (KeepsOthers.setCell _ _ _)).trans (KeepsOthers.drew _)).trans (KeepsOthers.drew _)).from _, hBL, ⟨hBX, hRW⟩, hB1.trans hBL⟩
            · go_simp
              refine hK _ _ ?_
              clear hK K
              try simp only [Act.put, jA, jB, jC, jD, jE, jF]
              refine wpAny_ready (rs := [4]) (by kernel_rfl) (by simp) ?_
              refine AllReady.cons rfl (fun K hK => ?_) AllReady.nil
              go_simp
              refine hK _ _ ?_
              clear hK K
              try simp only [Act.put, jA, jB, jC, jD, jE, jF]
              refine wpAny_take (i := 8) (v := ?vb58x7) rfl (by kernel_rfl) (by kernel_rfl) (by kernel_rfl) (fun _ _ _ h => h) (Or.inl ⟨by rfl, ?yb58x7⟩) ?rb58x7
              case yb58x7 => (intro w'; (try go_simp); (try with_reducible rfl))
              try simp only [Act.put, jA, jB, jC, jD, jE, jF]
              refine wpAny_take (i := 9) (v := ?vb59x7) rfl (by kernel_rfl) (by kernel_rfl) (by kernel_rfl) (fun _ _ _ h => h) (Or.inl ⟨by rfl, ?yb59x7⟩) ?rb59x7
              case yb59x7 => (intro w'; (try go_simp); (try with_reducible rfl))
              try simp only [Act.put, jA, jB, jC, jD, jE, jF]
              refine wpAny_take (i := 10) (v := ?vb510x7) rfl (by kernel_rfl) (by kernel_rfl) (by kernel_rfl) (fun _ _ _ h => h) (Or.inl ⟨by rfl, ?yb510x7⟩) ?rb510x7
              case yb510x7 => (intro w'; (try go_simp); (try with_reducible rfl))
              try simp only [Act.put, jA, jB, jC, jD, jE, jF]
              refine wpAny_ready (rs := [11]) (by kernel_rfl) (by simp) ?_
              refine AllReady.cons rfl (fun K hK => ?_) AllReady.nil
              go_simp
              refine hK _ _ ?_
              clear hK K
              try simp only [Act.put, jA, jB, jC, jD, jE, jF]
              refine wpAny_done (by kernel_rfl) ?_ _
              simp only [OnlyNormal]
              have hW : Wrote W ((W.setCell ⟨w.heap.size, x.1.1 * 2, none⟩ (.int .i64 x.1.2.2.rc.seq)).setCell ⟨w.heap.size, x.1.1 * 2 + 1, none⟩ (.int .i64 x.1.2.2.rc.seq)) w.heap.size (x.1.1 * 2) (Spn (lowOf sp x.1.2.2.rc.seq, max sp.2 x.1.2.2.rc.seq)) := by
                rw [hlo.out, hmv.out]
                exact wrote_setRow w.heap.size [.int .i64 x.1.2.2.rc.seq, .int .i64 x.1.2.2.rc.seq] (x.1.1 * 2) W (fun j hj => by
                  match j, hj with
                  | 0, _ => exact ⟨_, l0⟩
                  | 1, _ => exact ⟨_, l1⟩)
              have hBL : Below w.heap.size W ((W.setCell ⟨w.heap.size, x.1.1 * 2, none⟩ (.int .i64 x.1.2.2.rc.seq)).setCell ⟨w.heap.size, x.1.1 * 2 + 1, none⟩ (.int .i64 x.1.2.2.rc.seq)).drew.drew := ((((Below.refl w.heap.size W).setCell (p := ⟨w.heap.size, x.1.1 * 2, none⟩) (Nat.le_refl _) (.int .i64 x.1.2.2.rc.seq)).setCell (p := ⟨w.heap.size, x.1.1 * 2 + 1, none⟩) (Nat.le_refl _) (.int .i64 x.1.2.2.rc.seq)).drew).drew
              have hBX : Boxed ((W.setCell ⟨w.heap.size, x.1.1 * 2, none⟩ (.int .i64 x.1.2.2.rc.seq)).setCell ⟨w.heap.size, x.1.1 * 2 + 1, none⟩ (.int .i64 x.1.2.2.rc.seq)).drew.drew (w.heap.size + 1) 141 (.slice (some ⟨w.heap.size, 0, none⟩) 4 4) := (hW.block (w.heap.size + 1) (by omega)).trans bV1
              have hRW : Row ((W.setCell ⟨w.heap.size, x.1.1 * 2, none⟩ (.int .i64 x.1.2.2.rc.seq)).setCell ⟨w.heap.size, x.1.1 * 2 + 1, none⟩ (.int .i64 x.1.2.2.rc.seq)).drew.drew (some ⟨w.heap.size, 0, none⟩) (spv (spOf ((pre ++ [x]).map Subtype.val))) := (HROW.out _ hW).drew.drew
              clear hW HROW
              gi_wp2
              exact ⟨((((KeepsOthers.setCell _ _ _).trans (KeepsOthers.setCell _ _ _)).trans (KeepsOthers.drew _)).trans (KeepsOthers.drew _)).from _, hBL, ⟨hBX, hRW⟩, hB1.trans hBL⟩
          · have hmv : Hid (max sp.2 x.1.2.2.rc.seq = sp.2) := by unfold Hid; omega
            refine region_round (by kernel_rfl) (by kernel_rfl) ?_
            refine wpAny_take (i := 0) (v := ?vb60) rfl (by kernel_rfl) (by kernel_rfl) (by kernel_rfl) (fun _ _ _ h => h) (Or.inl ⟨by rfl, ?yb60⟩) ?rb60
            case yb60 => (intro w'; (try go_simp); (try with_reducible rfl))
            try simp only [Act.put, jA, jB, jC, jD, jE, jF]
            refine wpAny_take (i := 1) (v := ?vb61) rfl (by kernel_rfl) (by kernel_rfl) (by kernel_rfl) (fun _ _ _ h => h) (Or.inl ⟨by rfl, ?yb61⟩) ?rb61
            case yb61 => (intro w'; (try go_simp); (try with_reducible rfl))
            try simp only [Act.put, jA, jB, jC, jD, jE, jF]
            refine wpAny_take (i := 2) (v := ?vb62) rfl (by kernel_rfl) (by kernel_rfl) (by kernel_rfl) (fun _ _ _ h => h) (Or.inl ⟨by rfl, ?yb62⟩) ?rb62
            case yb62 => (intro w'; (try go_simp); (try with_reducible rfl))
            try simp only [Act.put, jA, jB, jC, jD, jE, jF]
            refine wpAny_take (i := 3) (v := ?vb63) rfl (by kernel_rfl) (by kernel_rfl) (by kernel_rfl) (fun _ _ _ h => h) (Or.inl ⟨by rfl, ?yb63⟩) ?rb63
            case yb63 => (intro w'; (try go_simp); (try with_reducible rfl))
            try simp only [Act.put, jA, jB, jC, jD, jE, jF]
            refine wpAny_take (i := 5) (v := ?vb65) rfl (by kernel_rfl) (by kernel_rfl) (by kernel_rfl) (fun _ _ _ h => h) (Or.inl ⟨by rfl, ?yb65⟩) ?rb65
            case yb65 => (intro w'; (try go_simp); (try with_reducible rfl))
            try simp only [Act.put, jA, jB, jC, jD, jE, jF]
            refine wpAny_take (i := 6) (v := ?vb66) rfl (by kernel_rfl) (by kernel_rfl) (by kernel_rfl) (fun _ _ _ h => h) (Or.inl ⟨by rfl, ?yb66⟩) ?rb66
            case yb66 => (intro w'; (try go_simp); (try with_reducible rfl))
            try simp only [Act.put, jA, jB, jC, jD, jE, jF]
            refine wpAny_ready (rs := [4, 7]) (by kernel_rfl) (by simp) ?_
            refine AllReady.cons rfl (fun K hK => ?_) (AllReady.cons rfl (fun K hK => ?_) AllReady.nil)
            · go_simp
              refine hK _ _ ?_
              clear hK K
              try simp only [Act.put, jA, jB, jC, jD, jE, jF]
              refine wpAny_ready (rs := [7]) (by kernel_rfl) (by simp) ?_
              refine AllReady.cons rfl (fun K hK => ?_) AllReady.nil
              go_simp
              refine hK _ _ ?_
              clear hK K
              try simp only [Act.put, jA, jB, jC, jD, jE, jF]
              refine wpAny_take (i := 8) (v := ?vb68x4) rfl (by kernel_rfl) (by kernel_rfl) (by kernel_rfl) (fun _ _ _ h => h) (Or.inl ⟨by rfl, ?yb68x4⟩) ?rb68x4
              case yb68x4 => (intro w'; (try go_simp); (try with_reducible rfl))
              try simp only [Act.put, jA, jB, jC, jD, jE, jF]
              refine wpAny_take (i := 9) (v := ?vb69x4) rfl (by kernel_rfl) (by kernel_rfl) (by kernel_rfl) (fun _ _ _ h => h) (Or.inl ⟨by rfl, ?yb69x4⟩) ?rb69x4
              case yb69x4 => (intro w'; (try go_simp); (try with_reducible rfl))
              try simp only [Act.put, jA, jB, jC, jD, jE, jF]
              refine wpAny_take (i := 10) (v := ?vb610x4) rfl (by kernel_rfl) (by kernel_rfl) (by kernel_rfl) (fun _ _ _ h => h) (Or.inl ⟨by rfl, ?yb610x4⟩) ?rb610x4
              case yb610x4 => (intro w'; (try go_simp); (try with_reducible rfl))
              try simp only [Act.put, jA, jB, jC, jD, jE, jF]
              refine wpAny_ready (rs := [11]) (by kernel_rfl) (by simp) ?_
              refine AllReady.cons rfl (fun K hK => ?_) AllReady.nil
              go_simp
              refine hK _ _ ?_
              clear hK K
              try simp only [Act.put, jA, jB, jC, jD, jE, jF]
              refine wpAny_done (by kernel_rfl) ?_ _
              simp only [OnlyNormal]
              have hW : Wrote W ((W.setCell ⟨w.heap.size, x.1.1 * 2, none⟩ (.int .i64 x.1.2.2.rc.seq)).setCell ⟨w.heap.size, x.1.1 * 2 + 1, none⟩ (.int .i64 sp.2)) w.heap.size (x.1.1 * 2) (Spn (lowOf sp x.1.2.2.rc.seq, max sp.2 x.1.2.2.rc.seq)) := by
                rw [hlo.out, hmv.out]
                exact wrote_setRow w.heap.size [.int .i64 x.1.2.2.rc.seq, .int .i64 sp.2] (x.1.1 * 2) W (fun j hj => by
                  match j, hj with
                  | 0, _ => exact ⟨_, l0⟩
                  | 1, _ => exact ⟨_, l1⟩)
              have hBL : Below w.heap.size W ((W.setCell ⟨w.heap.size, x.1.1 * 2, none⟩ (.int .i64 x.1.2.2.rc.seq)).setCell ⟨w.heap.size, x.1.1 * 2 + 1, none⟩ (.int .i64 sp.2)).drew.drew := ((((Below.refl w.heap.size W).setCell (p := ⟨w.heap.size, x.1.1 * 2, none⟩) (Nat.le_refl _) (.int .i64 x.1.2.2.rc.seq)).setCell (p := ⟨w.heap.size, x.1.1 * 2 + 1, none⟩) (Nat.le_refl _) (.int .i64 sp.2)).drew).drew
              have hBX : Boxed ((W.setCell ⟨w.heap.size, x.1.1 * 2, none⟩ (.int .i64 x.1.2.2.rc.seq)).setCell ⟨w.heap.size, x.1.1 * 2 + 1, none⟩ (.int .i64 sp.2)).drew.drew (w.heap.size + 1) 141 (.slice (some ⟨w.heap.size, 0, none⟩) 4 4) := (hW.block (w.heap.size + 1) (by omega)).trans bV1
              have hRW : Row ((W.setCell ⟨w.heap.size, x.1.1 * 2, none⟩ (.int .i64 x.1.2.2.rc.seq)).setCell ⟨w.heap.size, x.1.1 * 2 + 1, none⟩ (.int .i64 sp.2)).drew.drew (some ⟨w.heap.size, 0, none⟩) (spv (spOf ((pre ++ [x]).map Subtype.val))) := (HROW.out _ hW).drew.drew
              clear hW HROW
              gi_wp2
              exact ⟨((((KeepsOthers.setCell _ _ _).trans (KeepsOthers.setCell _ _ _)).trans (KeepsOthers.drew _)).trans (KeepsOthers.drew _)).from _, hBL, ⟨hBX, hRW⟩, hB1.trans hBL⟩
            · go_simp
              refine hK _ _ ?_
              clear hK K
              try simp only [Act.put, jA, jB, jC, jD, jE, jF]
              refine wpAny_ready (rs := [4]) (by kernel_rfl) (by simp) ?_
              refine AllReady.cons rfl (fun K hK => ?_) AllReady.nil
              go_simp
              refine hK _ _ ?_
              clear hK K
              try simp only [Act.put, jA, jB, jC, jD, jE, jF]
              refine wpAny_take (i := 8) (v := ?vb68x7) rfl (by kernel_rfl) (by kernel_rfl) (by kernel_rfl) (fun _ _ _ h => h) (Or.inl ⟨by rfl, ?yb68x7⟩) ?rb68x7
              case yb68x7 => (intro w'; (try go_simp); (try with_reducible rfl))
              try simp only [Act.put, jA, jB, jC, jD, jE, jF]
              refine wpAny_take (i := 9) (v := ?vb69x7) rfl (by kernel_rfl) (by kernel_rfl) (by kernel_rfl) (fun _ _ _ h => h) (Or.inl ⟨by rfl, ?yb69x7⟩) ?rb69x7
              case yb69x7 => (intro w'; (try go_simp); (try with_reducible rfl))
              try simp only [Act.put, jA, jB, jC, jD, jE, jF]
              refine wpAny_take (i := 10) (v := ?vb610x7) rfl (by kernel_rfl) (by kernel_rfl) (by kernel_rfl) (fun _ _ _ h => h) (Or.inl ⟨by rfl, ?yb610x7⟩) ?rb610x7
              case yb610x7 => (intro w'; (try go_simp); (try with_reducible rfl))
              try simp only [Act.put, jA, jB, jC, jD, jE, jF]
              refine wpAny_ready (rs := [11]) (by kernel_rfl) (by simp) ?_
              refine AllReady.cons rfl (fun K hK => ?_) AllReady.nil
              go_simp
              refine hK _ _ ?_
              clear hK K
              try simp only [Act.put, jA, jB, jC, jD, jE, jF]
              refine wpAny_done (by kernel_rfl) ?_ _
              simp only [OnlyNormal]
              have hW : Wrote W ((W.setCell ⟨w.heap.size, x.1.1 * 2, none⟩ (.int .i64 x.1.2.2.rc.seq)).setCell ⟨w.heap.size, x.1.1 * 2 + 1, none⟩ (.int .i64 sp.2)) w.heap.size (x.1.1 * 2) (Spn (lowOf sp x.1.2.2.rc.seq, max sp.2 x.1.2.2.rc.seq)) := by
                rw [hlo.out, hmv.out]
                exact wrote_setRow w.heap.size [.int .i64 x.1.2.2.rc.seq, .int .i64 sp.2] (x.1.1 * 2) W (fun j hj => by
                  match j, hj with
                  | 0, _ => exact ⟨_, l0⟩
                  | 1, _ => exact ⟨_, l1⟩)
              have hBL : Below w.heap.size W ((W.setCell ⟨w.heap.size, x.1.1 * 2, none⟩ (.int .i64 x.1.2.2.rc.seq)).setCell ⟨w.heap.size, x.1.1 * 2 + 1, none⟩ (.int .i64 sp.2)).drew.drew := ((((Below.refl w.heap.size W).setCell (p := ⟨w.heap.size, x.1.1 * 2, none⟩) (Nat.le_refl _) (.int .i64 x.1.2.2.rc.seq)).setCell (p := ⟨w.heap.size, x.1.1 * 2 + 1, none⟩) (Nat.le_refl _) (.int .i64 sp.2)).drew).drew
              have hBX : Boxed ((W.setCell ⟨w.heap.size, x.1.1 * 2, none⟩ (.int .i64 x.1.2.2.rc.seq)).setCell ⟨w.heap.size, x.1.1 * 2 + 1, none⟩ (.int .i64 sp.2)).drew.drew (w.heap.size + 1) 141 (.slice (some ⟨w.heap.size, 0, none⟩) 4 4) := (hW.block (w.heap.size + 1) (by omega)).trans bV1
              have hRW : Row ((W.setCell ⟨w.heap.size, x.1.1 * 2, none⟩ (.int .i64 x.1.2.2.rc.seq)).setCell ⟨w.heap.size, x.1.1 * 2 + 1, none⟩ (.int .i64 sp.2)).drew.drew (some ⟨w.heap.size, 0, none⟩) (spv (spOf ((pre ++ [x]).map Subtype.val))) := (HROW.out _ hW).drew.drew
              clear hW HROW
              gi_wp2
              exact ⟨((((KeepsOthers.setCell _ _ _).trans (KeepsOthers.setCell _ _ _)).trans (KeepsOthers.drew _)).trans (KeepsOthers.drew _)).from _, hBL, ⟨hBX, hRW⟩, hB1.trans hBL⟩
        · have hlo : Hid (lowOf sp x.1.2.2.rc.seq = sp.1) := by unfold Hid lowOf; rw [if_neg (by rintro (h | h); exact hz h; exact hq h)]
          gi_wp2
          refine region_round_held (S := fun w' => w'.cell? ⟨w.heap.size, x.1.1 * 2, none⟩ = some (.int .i64 sp.1) ∧ w'.cell? ⟨B5, 2, none⟩ = some (.int .i64 x.1.2.2.rc.seq)) (by kernel_rfl) (by kernel_rfl) ⟨l0, x2⟩ (fun hHeld => ?_)
          refine wpAnyH_take (i := 0) (v := ?va70) rfl (by kernel_rfl) (by kernel_rfl) (by kernel_rfl) (fun _ _ _ h => h) (Or.inl ⟨by rfl, ?ya70⟩) hHeld ?ra70
          case ya70 => (intro w' hS; (try dsimp only at hS); obtain ⟨s0, s1⟩ := hS; (try go_simp); (try with_reducible rfl))
          try simp only [Act.put, jA, jB, jC, jD, jE, jF]
          refine wpAnyH_take (i := 1) (v := ?va71) rfl (by kernel_rfl) (by kernel_rfl) (by kernel_rfl) (fun _ _ _ h => h) (Or.inl ⟨by rfl, ?ya71⟩) hHeld ?ra71
          case ya71 => (intro w' hS; (try dsimp only at hS); obtain ⟨s0, s1⟩ := hS; (try go_simp); (try with_reducible rfl))
          try simp only [Act.put, jA, jB, jC, jD, jE, jF]
          refine wpAnyH_take (i := 2) (v := ?va72) rfl (by kernel_rfl) (by kernel_rfl) (by kernel_rfl) (fun _ _ _ h => h) (Or.inl ⟨by rfl, ?ya72⟩) hHeld ?ra72
          case ya72 => (intro w' hS; (try dsimp only at hS); obtain ⟨s0, s1⟩ := hS; (try go_simp); (try with_reducible rfl))
          try simp only [Act.put, jA, jB, jC, jD, jE, jF]
          refine wpAnyH_take (i := 3) (v := ?va73) rfl (by kernel_rfl) (by kernel_rfl) (by kernel_rfl) (fun _ _ _ h => h) (Or.inl ⟨by rfl, ?ya73⟩) hHeld ?ra73
          case ya73 => (intro w' hS; (try dsimp only at hS); obtain ⟨s0, s1⟩ := hS; (try go_simp); (try with_reducible rfl))
          try simp only [Act.put, jA, jB, jC, jD, jE, jF]
          refine wpAnyH_take (i := 4) (v := ?va74) rfl (by kernel_rfl) (by kernel_rfl) (by kernel_rfl) (fun _ _ _ h => h) (Or.inl ⟨by rfl, ?ya74⟩) hHeld ?ra74
          case ya74 => (intro w' hS; (try dsimp only at hS); obtain ⟨s0, s1⟩ := hS; (try go_simp); (try with_reducible rfl))
          try simp only [Act.put, jA, jB, jC, jD, jE, jF]
          refine wpAnyH_take (i := 5) (v := ?va75) rfl (by kernel_rfl) (by kernel_rfl) (by kernel_rfl) (fun _ _ _ h => h) (Or.inl ⟨by rfl, ?ya75⟩) hHeld ?ra75
          case ya75 => (intro w' hS; (try dsimp only at hS); obtain ⟨s0, s1⟩ := hS; (try go_simp); (try with_reducible rfl))
          try simp only [Act.put, jA, jB, jC, jD, jE, jF]
          refine wpAnyH_take (i := 6) (v := ?va76) rfl (by kernel_rfl) (by kernel_rfl) (by kernel_rfl) (fun _ _ _ h => h) (Or.inl ⟨by rfl, ?ya76⟩) hHeld ?ra76
          case ya76 => (intro w' hS; (try dsimp only at hS); obtain ⟨s0, s1⟩ := hS; (try go_simp); (try with_reducible rfl))
          try simp only [Act.put, jA, jB, jC, jD, jE, jF]
          refine wpAnyH_take (i := 7) (v := ?va77) rfl (by kernel_rfl) (by kernel_rfl) (by kernel_rfl) (fun _ _ _ h => h) (Or.inl ⟨by rfl, ?ya77⟩) hHeld ?ra77
          case ya77 => (intro w' hS; (try dsimp only at hS); obtain ⟨s0, s1⟩ := hS; (try go_simp); (try with_reducible rfl))
          try simp only [Act.put, jA, jB, jC, jD, jE, jF]
          refine wpAnyH_take (i := 8) (v := ?va78) rfl (by kernel_rfl) (by kernel_rfl) (by kernel_rfl) (fun _ _ _ h => h) (Or.inl ⟨by rfl, ?ya78⟩) hHeld ?ra78
          case ya78 => (intro w' hS; (try dsimp only at hS); obtain ⟨s0, s1⟩ := hS; (try go_simp); (try with_reducible rfl))
          try simp only [Act.put, jA, jB, jC, jD, jE, jF]
          refine wpAnyH_take (i := 9) (v := ?va79) rfl (by kernel_rfl) (by kernel_rfl) (by kernel_rfl) (fun _ _ _ h => h) (Or.inl ⟨by rfl, ?ya79⟩) hHeld ?ra79
          case ya79 => (intro w' hS; (try dsimp only at hS); obtain ⟨s0, s1⟩ := hS; (try go_simp); (try with_reducible rfl))
          try simp only [Act.put, jA, jB, jC, jD, jE, jF]
          refine wpAnyH_take (i := 10) (v := ?va710) rfl (by kernel_rfl) (by kernel_rfl) (by kernel_rfl) (fun _ _ _ h => h) (Or.inl ⟨by rfl, ?ya710⟩) hHeld ?ra710
          case ya710 => (intro w' hS; (try dsimp only at hS); obtain ⟨s0, s1⟩ := hS; (try go_simp); (try with_reducible rfl))
          try simp only [Act.put, jA, jB, jC, jD, jE, jF]
          refine wpAnyH_take (i := 11) (v := ?va711) rfl (by kernel_rfl) (by kernel_rfl) (by kernel_rfl) (fun _ _ _ h => h) (Or.inl ⟨by rfl, ?ya711⟩) hHeld ?ra711
          case ya711 => (intro w' hS; (try dsimp only at hS); obtain ⟨s0, s1⟩ := hS; (try go_simp); (try with_reducible rfl))
          try simp only [Act.put, jA, jB, jC, jD, jE, jF]
          refine wpAnyH_take (i := 12) (v := ?va712) rfl (by kernel_rfl) (by kernel_rfl) (by kernel_rfl) (fun _ _ _ h => h) (Or.inl ⟨by rfl, ?ya712⟩) hHeld ?ra712
          case ya712 => (intro w' hS; (try dsimp only at hS); obtain ⟨s0, s1⟩ := hS; (try go_simp); (try with_reducible rfl))
          try simp only [Act.put, jA, jB, jC, jD, jE, jF]
          refine wpAnyH_take (i := 13) (v := ?va713) rfl (by kernel_rfl) (by kernel_rfl) (by kernel_rfl) (fun _ _ _ h => h) (Or.inl ⟨by rfl, ?ya713⟩) hHeld ?ra713
          case ya713 => (intro w' hS; (try dsimp only at hS); obtain ⟨s0, s1⟩ := hS; (try go_simp); (try with_reducible rfl))
          try simp only [Act.put, jA, jB, jC, jD, jE, jF]
          refine wpAnyH_take (i := 14) (v := ?va714) rfl (by kernel_rfl) (by kernel_rfl) (by kernel_rfl) (fun _ _ _ h => h) (Or.inl ⟨by rfl, ?ya714⟩) hHeld ?ra714
          case ya714 => (intro w' hS; (try dsimp only at hS); obtain ⟨s0, s1⟩ := hS; (try go_simp); (try with_reducible rfl))
          try simp only [Act.put, jA, jB, jC, jD, jE, jF]
          refine wpAnyH_done (by kernel_rfl) ?_ _
          simp only [OnlyNormal]
          gi_wp2
          by_cases hmx : sp.2 < x.1.2.2.rc.seq
          · have hmv : Hid (max sp.2 x.1.2.2.rc.seq = x.1.2.2.rc.seq) := by unfold Hid; omega
            refine region_round (by kernel_rfl) (by kernel_rfl) ?_
            refine wpAny_take (i := 0) (v := ?vb80) rfl (by kernel_rfl) (by kernel_rfl) (by kernel_rfl) (fun _ _ _ h => h) (Or.inl ⟨by rfl, ?yb80⟩) ?rb80
            case yb80 => (intro w'; (try go_simp); (try with_reducible rfl))
            try simp only [Act.put, jA, jB, jC, jD, jE, jF]
            refine wpAny_take (i := 1) (v := ?vb81) rfl (by kernel_rfl) (by kernel_rfl) (by kernel_rfl) (fun _ _ _ h => h) (Or.inl ⟨by rfl, ?yb81⟩) ?rb81
            case yb81 => (intro w'; (try go_simp); (try with_reducible rfl))
            try simp only [Act.put, jA, jB, jC, jD, jE, jF]
            refine wpAny_take (i := 2) (v := ?vb82) rfl (by kernel_rfl) (by kernel_rfl) (by kernel_rfl) (fun _ _ _ h => h) (Or.inl ⟨by rfl, ?yb82⟩) ?rb82
            case yb82 => (intro w'; (try go_simp); (try with_reducible rfl))
            try simp only [Act.put, jA, jB, jC, jD, jE, jF]
            refine wpAny_take (i := 3) (v := ?vb83) rfl (by kernel_rfl) (by kernel_rfl) (by kernel_rfl) (fun _ _ _ h => h) (Or.inl ⟨by rfl, ?yb83⟩) ?rb83
            case yb83 => (intro w'; (try go_simp); (try with_reducible rfl))
            try simp only [Act.put, jA, jB, jC, jD, jE, jF]
            refine wpAny_take (i := 5) (v := ?vb85) rfl (by kernel_rfl) (by kernel_rfl) (by kernel_rfl) (fun _ _ _ h => h) (Or.inl ⟨by rfl, ?yb85⟩) ?rb85
            case yb85 => (intro w'; (try go_simp); (try with_reducible rfl))
            try simp only [Act.put, jA, jB, jC, jD, jE, jF]
            refine wpAny_take (i := 6) (v := ?vb86) rfl (by kernel_rfl) (by kernel_rfl) (by kernel_rfl) (fun _ _ _ h => h) (Or.inl ⟨by rfl, ?yb86⟩) ?rb86
            case yb86 => (intro w'; (try go_simp); (try with_reducible rfl))
            try simp only [Act.put, jA, jB, jC, jD, jE, jF]
            refine wpAny_ready (rs := [4, 7]) (by kernel_rfl) (by simp) ?_
            refine AllReady.cons rfl (fun K hK => ?_) (AllReady.cons rfl (fun K hK => ?_) AllReady.nil)
            · go_simp
              refine hK _ _ ?_
              clear hK K
              try simp only [Act.put, jA, jB, jC, jD, jE, jF]
              refine wpAny_ready (rs := [7]) (by kernel_rfl) (by simp) ?_
              refine AllReady.cons rfl (fun K hK => ?_) AllReady.nil
              go_simp
              refine hK _ _ ?_
              clear hK K
              try simp only [Act.put, jA, jB, jC, jD, jE, jF]
              refine wpAny_take (i := 8) (v := ?vb88x4) rfl (by kernel_rfl) (by kernel_rfl) (by kernel_rfl) (fun _ _ _ h => h) (Or.inl ⟨by rfl, ?yb88x4⟩) ?rb88x4
              case yb88x4 => (intro w'; (try go_simp); (try with_reducible rfl))
              try simp only [Act.put, jA, jB, jC, jD, jE, jF]
              refine wpAny_take (i := 9) (v := ?vb89x4) rfl (by kernel_rfl) (by kernel_rfl) (by kernel_rfl) (fun _ _ _ h => h) (Or.inl ⟨by rfl, ?yb89x4⟩) ?rb89x4
              case yb89x4 => (intro w'; (try go_simp); (try with_reducible rfl))
              try simp only [Act.put, jA, jB, jC, jD, jE, jF]
              refine wpAny_take (i := 10) (v := ?vb810x4) rfl (by kernel_rfl) (by kernel_rfl) (by kernel_rfl) (fun _ _ _ h => h) (Or.inl ⟨by rfl, ?yb810x4⟩) ?rb810x4
              case yb810x4 => (intro w'; (try go_simp); (try with_reducible rfl))
              try simp only [Act.put, jA, jB, jC, jD, jE, jF]
              refine wpAny_ready (rs := [11]) (by kernel_rfl) (by simp) ?_
              refine AllReady.cons rfl (fun K hK => ?_) AllReady.nil
              go_simp
              refine hK _ _ ?_
              clear hK K
              try simp only [Act.put, jA, jB, jC, jD, jE, jF]
              refine wpAny_done (by kernel_rfl) ?_ _
              simp only [OnlyNormal]
              have hW : Wrote W (W.setCell ⟨w.heap.size, x.1.1 * 2 + 1, none⟩ (.int .i64 x.1.2.2.rc.seq)) w.heap.size (x.1.1 * 2) (Spn (lowOf sp x.1.2.2.rc.seq, max sp.2 x.1.2.2.rc.seq)) := by
                rw [hlo.out, hmv.out]
                exact (wrote_one l1 (.int .i64 x.1.2.2.rc.seq)).less l0
              have hBL : Below w.heap.size W (W.setCell ⟨w.heap.size, x.1.1 * 2 + 1, none⟩ (.int .i64 x.1.2.2.rc.seq)).drew.drew := (((Below.refl w.heap.size W).setCell (p := ⟨w.heap.size, x.1.1 * 2 + 1, none⟩) (Nat.le_refl _) (.int .i64 x.1.2.2.rc.seq)).drew).drew
              have hBX : Boxed (W.setCell ⟨w.heap.size, x.1.1 * 2 + 1, none⟩ (.int .i64 x.1.2.2.rc.seq)).drew.drew (w.heap.size + 1) 141 (.slice (some ⟨w.heap.size, 0, none⟩) 4 4) := (hW.block (w.heap.size + 1) (by omega)).trans bV1
              have hRW : Row (W.setCell ⟨w.heap.size, x.1.1 * 2 + 1, none⟩ (.int .i64 x.1.2.2.rc.seq)).drew.drew (some ⟨w.heap.size, 0, none⟩) (spv (spOf ((pre ++ [x]).map Subtype.val))) := (HROW.out _ hW).drew.drew
              clear hW HROW
              gi_wp2
              exact ⟨(((KeepsOthers.setCell _ _ _).trans (KeepsOthers.drew _)).trans (KeepsOthers.drew _)).from _, hBL, ⟨hBX, hRW⟩, hB1.trans hBL⟩
            · go_simp
              refine hK _ _ ?_
              clear hK K
              try simp only [Act.put, jA, jB, jC, jD, jE, jF]
              refine wpAny_ready (rs := [4]) (by kernel_rfl) (by simp) ?_
              refine AllReady.cons rfl (fun K hK => ?_) AllReady.nil
              go_simp
              refine hK _ _ ?_
              clear hK K
              try simp only [Act.put, jA, jB, jC, jD, jE, jF]
              refine wpAny_take (i := 8) (v := ?vb88x7) rfl (by kernel_rfl) (by kernel_rfl) (by kernel_rfl) (fun _ _ _ h => h) (Or.inl ⟨by rfl, ?yb88x7⟩) ?rb88x7
              case yb88x7 => (intro w'; (try go_simp); (try with_reducible rfl))
              try simp only [Act.put, jA, jB, jC, jD, jE, jF]
              refine wpAny_take (i := 9) (v := ?vb89x7) rfl (by kernel_rfl) (by kernel_rfl) (by kernel_rfl) (fun _ _ _ h => h) (Or.inl ⟨by rfl, ?yb89x7⟩) ?rb89x7
              case yb89x7 => (intro w'; (try go_simp); (try with_reducible rfl))
              try simp only [Act.put, jA, jB, jC, jD, jE, jF]
              refine wpAny_take (i := 10) (v := ?vb810x7) rfl (by kernel_rfl) (by kernel_rfl) (by kernel_rfl) (fun _ _ _ h => h) (Or.inl ⟨by rfl, ?yb810x7⟩) ?rb810x7
              case yb810x7 => (intro w'; (try go_simp); (try with_reducible rfl))
              try simp only [Act.put, jA, jB, jC, jD, jE, jF]
              refine wpAny_ready (rs := [11]) (by kernel_rfl) (by simp) ?_
              refine AllReady.cons rfl (fun K hK => ?_) AllReady.nil
              go_simp
              refine hK _ _ ?_
              clear hK K
              try simp only [Act.put, jA, jB, jC, jD, jE, jF]
              refine wpAny_done (by kernel_rfl) ?_ _
              simp only [OnlyNormal]
              have hW : Wrote W (W.setCell ⟨w.heap.size, x.1.1 * 2 + 1, none⟩ (.int .i64 x.1.2.2.rc.seq)) w.heap.size (x.1.1 * 2) (Spn (lowOf sp x.1.2.2.rc.seq, max sp.2 x.1.2.2.rc.seq)) := by
                rw [hlo.out, hmv.out]
                exact (wrote_one l1 (.int .i64 x.1.2.2.rc.seq)).less l0
              have hBL : Below w.heap.size W (W.setCell ⟨w.heap.size, x.1.1 * 2 + 1, none⟩ (.int .i64 x.1.2.2.rc.seq)).drew.drew := (((Below.refl w.heap.size W).setCell (p := ⟨w.heap.size, x.1.1 * 2 + 1, none⟩) (Nat.le_refl _) (.int .i64 x.1.2.2.rc.seq)).drew).drew
              have hBX : Boxed (W.setCell ⟨w.heap.size, x.1.1 * 2 + 1, none⟩ (.int .i64 x.1.2.2.rc.seq)).drew.drew (w.heap.size + 1) 141 (.slice (some ⟨w.heap.size, 0, none⟩) 4 4) := (hW.block (w.heap.size + 1) (by omega)).trans bV1
              have hRW : Row (W.setCell ⟨w.heap.size, x.1.1 * 2 + 1, none⟩ (.int .i64 x.1.2.2.rc.seq)).drew.drew (some ⟨w.heap.size, 0, none⟩) (spv (spOf ((pre ++ [x]).map Subtype.val))) := (HROW.out _ hW).drew.drew
              clear hW HROW
              gi_wp2
              exact ⟨(((KeepsOthers.setCell _ _ _).trans (KeepsOthers.drew _)).trans (KeepsOthers.drew _)).from _, hBL, ⟨hBX, hRW⟩, hB1.trans hBL⟩
          · have hmv : Hid (max sp.2 x.1.2.2.rc.seq = sp.2) := by unfold Hid; omega
            refine region_round (by kernel_rfl) (by kernel_rfl) ?_
            refine wpAny_take (i := 0) (v := ?vb90) rfl (by kernel_rfl) (by kernel_rfl) (by kernel_rfl) (fun _ _ _ h => h) (Or.inl ⟨by rfl, ?yb90⟩) ?rb90
            case yb90 => (intro w'; (try go_simp); (try with_reducible rfl))
            try simp only [Act.put, jA, jB, jC, jD, jE, jF]
            refine wpAny_take (i := 1) (v := ?vb91) rfl (by kernel_rfl) (by kernel_rfl) (by kernel_rfl) (fun _ _ _ h => h) (Or.inl ⟨by rfl, ?yb91⟩) ?rb91
            case yb91 => (intro w'; (try go_simp); (try with_reducible rfl))
            try simp only [Act.put, jA, jB, jC, jD, jE, jF]
            refine wpAny_take (i := 2) (v := ?vb92) rfl (by kernel_rfl) (by kernel_rfl) (by kernel_rfl) (fun _ _ _ h => h) (Or.inl ⟨by rfl, ?yb92⟩) ?rb92
            case yb92 => (intro w'; (try go_simp); (try with_reducible rfl))
            try simp only [Act.put, jA, jB, jC, jD, jE, jF]
            refine wpAny_take (i := 3) (v := ?vb93) rfl (by kernel_rfl) (by kernel_rfl) (by kernel_rfl) (fun _ _ _ h => h) (Or.inl ⟨by rfl, ?yb93⟩) ?rb93
            case yb93 => (intro w'; (try go_simp); (try with_reducible rfl))
            try simp only [Act.put, jA, jB, jC, jD, jE, jF]
            refine wpAny_take (i := 5) (v := ?vb95) rfl (by kernel_rfl) (by kernel_rfl) (by kernel_rfl) (fun _ _ _ h => h) (Or.inl ⟨by rfl, ?yb95⟩) ?rb95
            case yb95 => (intro w'; (try go_simp); (try with_reducible rfl))
            try simp only [Act.put, jA, jB, jC, jD, jE, jF]
            refine wpAny_take (i := 6) (v := ?vb96) rfl (by kernel_rfl) (by kernel_rfl) (by kernel_rfl) (fun _ _ _ h => h) (Or.inl ⟨by rfl, ?yb96⟩) ?rb96
            case yb96 => (intro w'; (try go_simp); (try with_reducible rfl))
            try simp only [Act.put, jA, jB, jC, jD, jE, jF]
            refine wpAny_ready (rs := [4, 7]) (by kernel_rfl) (by simp) ?_
            refine AllReady.cons rfl (fun K hK => ?_) (AllReady.cons rfl (fun K hK => ?_) AllReady.nil)
            · go_simp
              refine hK _ _ ?_
              clear hK K
              try simp only [Act.put, jA, jB, jC, jD, jE, jF]
              refine wpAny_ready (rs := [7]) (by kernel_rfl) (by simp) ?_
              refine AllReady.cons rfl (fun K hK => ?_) AllReady.nil
              go_simp
              refine hK _ _ ?_
              clear hK K
              try simp only [Act.put, jA, jB, jC, jD, jE, jF]
              refine wpAny_take (i := 8) (v := ?vb98x4) rfl (by kernel_rfl) (by kernel_rfl) (by kernel_rfl) (fun _ _ _ h => h) (Or.inl ⟨by rfl, ?yb98x4⟩) ?rb98x4
              case yb98x4 => (intro w'; (try go_simp); (try with_reducible rfl))
              try simp only [Act.put, jA, jB, jC, jD, jE, jF]
              refine wpAny_take (i := 9) (v := ?vb99x4) rfl (by kernel_rfl) (by kernel_rfl) (by kernel_rfl) (fun _ _ _ h => h) (Or.inl ⟨by rfl, ?yb99x4⟩) ?rb99x4
              case yb99x4 => (intro w'; (try go_simp); (try with_reducible rfl))
              try simp only [Act.put, jA, jB, jC, jD, jE, jF]
              refine wpAny_take (i := 10) (v := ?vb910x4) rfl (by kernel_rfl) (by kernel_rfl) (by kernel_rfl) (fun _ _ _ h => h) (Or.inl ⟨by rfl, ?yb910x4⟩) ?rb910x4
              case yb910x4 => (intro w'; (try go_simp); (try with_reducible rfl))
              try simp only [Act.put, jA, jB, jC, jD, jE, jF]
              refine wpAny_ready (rs := [11]) (by kernel_rfl) (by simp) ?_
              refine AllReady.cons rfl (fun K hK => ?_) AllReady.nil
              go_simp
              refine hK _ _ ?_
              clear hK K
              try simp only [Act.put, jA, jB, jC, jD, jE, jF]
              refine wpAny_done (by kernel_rfl) ?_ _
              simp only [OnlyNormal]
              have hW : Wrote W (W.setCell ⟨w.heap.size, x.1.1 * 2 + 1, none⟩ (.int .i64 sp.2)) w.heap.size (x.1.1 * 2) (Spn (lowOf sp x.1.2.2.rc.seq, max sp.2 x.1.2.2.rc.seq)) := by
                rw [hlo.out, hmv.out]
                exact (wrote_one l1 (.int .i64 sp.2)).less l0
              have hBL : Below w.heap.size W (W.setCell ⟨w.heap.size, x.1.1 * 2 + 1, none⟩ (.int .i64 sp.2)).drew.drew := (((Below.refl w.heap.size W).setCell (p := ⟨w.heap.size, x.1.1 * 2 + 1, none⟩) (Nat.le_refl _) (.int .i64 sp.2)).drew).drew
              have hBX : Boxed (W.setCell ⟨w.heap.size, x.1.1 * 2 + 1, none⟩ (.int .i64 sp.2)).drew.drew (w.heap.size + 1) 141 (.slice (some ⟨w.heap.size, 0, none⟩) 4 4) := (hW.block (w.heap.size + 1) (by omega)).trans bV1
              have hRW : Row (W.setCell ⟨w.heap.size, x.1.1 * 2 + 1, none⟩ (.int .i64 sp.2)).drew.drew (some ⟨w.heap.size, 0, none⟩) (spv (spOf ((pre ++ [x]).map Subtype.val))) := (HROW.out _ hW).drew.drew
              clear hW HROW
              gi_wp2
              exact ⟨(((KeepsOthers.setCell _ _ _).trans (KeepsOthers.drew _)).trans (KeepsOthers.drew _)).from _, hBL, ⟨hBX, hRW⟩, hB1.trans hBL⟩
            · go_simp
              refine hK _ _ ?_
              clear hK K
              try simp only [Act.put, jA, jB, jC, jD, jE, jF]
              refine wpAny_ready (rs := [4]) (by kernel_rfl) (by simp) ?_
              refine AllReady.cons rfl (fun K hK => ?_) AllReady.nil
              go_simp
              refine hK _ _ ?_
              clear hK K
              try simp only [Act.put, jA, jB, jC, jD, jE, jF]
              refine wpAny_take (i := 8) (v := ?vb98x7) rfl (by kernel_rfl) (by kernel_rfl) (by kernel_rfl) (fun _ _ _ h => h) (Or.inl ⟨by rfl, ?yb98x7⟩) ?rb98x7
              case yb98x7 => (intro w'; (try go_simp); (try with_reducible rfl))
              try simp only [Act.put, jA, jB, jC, jD, jE, jF]
              refine wpAny_take (i := 9) (v := ?vb99x7) rfl (by kernel_rfl) (by kernel_rfl) (by kernel_rfl) (fun _ _ _ h => h) (Or.inl ⟨by rfl, ?yb99x7⟩) ?rb99x7
              case yb99x7 => (intro w'; (try go_simp); (try with_reducible rfl))
              try simp only [Act.put, jA, jB, jC, jD, jE, jF]
              refine wpAny_take (i := 10) (v := ?vb910x7) rfl (by kernel_rfl) (by kernel_rfl) (by kernel_rfl) (fun _ _ _ h => h) (Or.inl ⟨by rfl, ?yb910x7⟩) ?rb910x7
              case yb910x7 => (intro w'; (try go_simp); (try with_reducible rfl))
              try simp only [Act.put, jA, jB, jC, jD, jE, jF]
              refine wpAny_ready (rs := [11]) (by kernel_rfl) (by simp) ?_
              refine AllReady.cons rfl (fun K hK => ?_) AllReady.nil
              go_simp
              refine hK _ _ ?_
              clear hK K
              try simp only [Act.put, jA, jB, jC, jD, jE, jF]
              refine wpAny_done (by kernel_rfl) ?_ _
              simp only [OnlyNormal]
              have hW : Wrote W (W.setCell ⟨w.heap.size, x.1.1 * 2 + 1, none⟩ (.int .i64 sp.2)) w.heap.size (x.1.1 * 2) (Spn (lowOf sp x.1.2.2.rc.seq, max sp.2 x.1.2.2.rc.seq)) := by
                rw [hlo.out, hmv.out]
                exact (wrote_one l1 (.int .i64 sp.2)).less l0
              have hBL : Below w.heap.size W (W.setCell ⟨w.heap.size, x.1.1 * 2 + 1, none⟩ (.int .i64 sp.2)).drew.drew := (((Below.refl w.heap.size W).setCell (p := ⟨w.heap.size, x.1.1 * 2 + 1, none⟩) (Nat.le_refl _) (.int .i64 sp.2)).drew).drew
              have hBX : Boxed (W.setCell ⟨w.heap.size, x.1.1 * 2 + 1, none⟩ (.int .i64 sp.2)).drew.drew (w.heap.size + 1) 141 (.slice (some ⟨w.heap.size, 0, none⟩) 4 4) := (hW.block (w.heap.size + 1) (by omega)).trans bV1
              have hRW : Row (W.setCell ⟨w.heap.size, x.1.1 * 2 + 1, none⟩ (.int .i64 sp.2)).drew.drew (some ⟨w.heap.size, 0, none⟩) (spv (spOf ((pre ++ [x]).map Subtype.val))) := (HROW.out _ hW).drew.drew
              clear hW HROW
              gi_wp2
              exact ⟨(((KeepsOthers.setCell _ _ _).trans (KeepsOthers.drew _)).trans (KeepsOthers.drew _)).from _, hBL, ⟨hBX, hRW⟩, hB1.trans hBL⟩
    · have h1' : (x.1.2.2.state != 1) = true := by simpa using h1
      gi_wp2
      exact ⟨KeepsFrom.refl _ _, Below.refl _ _, ⟨bV1, by rw [hst.out]; unfold spStep; rw [if_neg h1]; exact hR1⟩, hB1⟩
  case done =>
    rintro D ys W hD hys ⟨⟨bV1, hR1⟩, hB1⟩ hK
    have cV := bV1.cell
    gi_wp2
    refine ⟨by simp, .inl ⟨_, _, rfl, run_takeDeferred hK, ?_⟩⟩
    refine ⟨_, results_tmp rfl _ _ _, w.heap.size, rfl, Nat.le_refl _, ?_, hB1.trans (belowK_b (w := w) (Nat.le_refl _) W D _ _ (by omega) hK rfl rfl)⟩
    rw [← hys]
    exact row_own _ _ w.heap.size () W _ (some D) hR1 (grownBy_putObj' W D _) (fun r e => by cases e; exact ⟨by omega, _, hK, rfl⟩)
  case stop =>
    rintro D c pre W _ _ h _
    exact h.elim
end Go.Proofs.Ytbekihiiildgmaa
namespace Go.Proofs.Ytbekihiiildgmaa
set_option linter.unusedVariables false
set_option linter.unusedSimpArgs false
open Go.RowKit Go.Maps
set_option maxHeartbeats 400000
theorem impl_freePages (b : Bk) (A : Option Addr) (n c : Nat) (w : World) (hn : n = b.pages.length) (hl : b.pages.length < 1000000000000) (hR : Row w A (pgs b.pages)) :
    Calls Try.prog 151 #[.agg #[.slice A n c, .int .i64 b.worn]] w fun e w' => e = .returned (.int .i64 (clean b)) ∧ Below w.heap.size w w' := by
  subst hn
  obtain ⟨ps, n⟩ := b
  dsimp only at *
  have hB0 : Below w.heap.size w (w.alloc (.cells #[.slice A ps.length c, .int .i64 n] 137)) := by (repeat (first | (with_reducible exact Below.refl _ _) | (with_reducible assumption) | (refine Below.setCell ?_ (by first | omega | exact hB.size | exact hb.size | (have h := hB.size; simp; omega) | (have h := hb.size; simp; omega) | (simp; omega) | simp) _) | (refine Below.alloc ?_ (by first | omega | exact hB.size | exact hb.size | (have h := hB.size; simp; omega) | (have h := hb.size; simp; omega) | (simp; omega) | simp) _) | (refine Below.drew ?_)))
  have hT : Hid ((clean ⟨ps, n⟩ : Int) = 0 + (ps.drop 0).countP isClean) := by unfold Hid clean; simp
  go_enter Try.func151, Try.ntmps151
  go_wp2
  go_loopw [3, 9] (fun q i wr => ∃ (k m : Nat), k ≤ ps.length ∧ i = .int .i64 k ∧ q = .int .i64 m ∧ m ≤ k ∧ Below w.heap.size w wr ∧ Hid ((clean ⟨ps, n⟩ : Int) = m + (ps.drop k).countP isClean)) (fun _ i _ => ps.length - (intOf i).toNat)
  case atStart => exact ⟨0, 0, by omega, rfl, rfl, by omega, hB0, hT⟩
  case round =>
    clear hT hB0
    obtain ⟨k, m, hk, rfl, rfl, hm, hB, hT⟩ := hrel
    by_cases hlt : k < ps.length
    · obtain ⟨p, hp⟩ := get_some hlt
      obtain ⟨bk, o, rfl⟩ := hR.addr (pgs_ne (by rintro rfl; simp at hlt))
      obtain ⟨c0, c1, c2, c3, c4⟩ := (hR.below hB (Nat.le_refl _)).pg hp
      have hd := Lib.hid (drop_cons hp)
      have hk1 : (k : Int) < ps.length := by omega
      have hB2 : ∀ o, Below w.heap.size w (wr.alloc o) := fun o => hB.alloc hB.size o
      clear hp
      by_cases h0 : p.state = 0
      · have hi : Hid (isClean p = true) := by unfold Hid isClean; simp [h0]
        rw [h0] at c0
        clear h0
        go_wp2
        go_roundw
        case rel => exact ⟨k + 1, m + 1, by omega, by go_num, by go_num, by omega, hB2 _, by rw [Hid, hT.out, hd.out, List.countP_cons, hi.out]; simp; omega⟩
        case measure => simp [intOf]; omega
      · have hi : Hid (isClean p = false) := by unfold Hid isClean; simp [h0]
        go_wp2
        go_roundw
        case rel => exact ⟨k + 1, m, by omega, by go_num, rfl, by omega, hB2 _, by rw [Hid, hT.out, hd.out, List.countP_cons, hi.out]; simp⟩
        case measure => simp [intOf]; omega
    · obtain rfl : k = ps.length := by omega
      go_wp2
      go_ret
      exact ⟨ret_int (by rw [hT.out, List.drop_of_length_le (Nat.le_refl _)]; simp), hB⟩
set_option maxHeartbeats 2000000 in
theorem impl_seqUsed (f : List Bk) (s : Int) (A : Option Addr) (n c : Nat) (w : World) (hn : n = f.length) (hl : f.length < 1000000000000) (hp : ∀ b ∈ f, b.pages.length < 1000000000000) (hF : Fl w A f) :
    Calls Try.prog 154 #[.slice A n c, .int .i64 s] w fun e w' => e = .returned (.bool (seqIn f s)) ∧ Below w.heap.size w w' := by
  subst hn
  obtain ⟨hs, hBk⟩ := hF
  have HP := Lib.hid hp
  have hT : Hid (seqIn f s = (f.drop 0).any (bkHas s)) := rfl
  clear hp
  go_enter Try.func154, Try.ntmps154
  go_wp2
  go_loopw [11] (fun i wr => ∃ (k : Nat), k ≤ f.length ∧ i = .int .i64 k ∧ Below w.heap.size w wr ∧ Hid (seqIn f s = (f.drop k).any (bkHas s))) (fun i _ => f.length - (intOf i).toNat)
  case atStart => exact ⟨0, by omega, rfl, Below.refl _ _, hT⟩
  case round =>
    clear hT
    obtain ⟨k, hk, rfl, hB, hT⟩ := hrel
    by_cases hlt : k < f.length
    · obtain ⟨B, hBb⟩ := get_some hlt
      obtain ⟨g, o, rfl⟩ := hBk.addr (by rintro rfl; simp at hlt)
      obtain ⟨⟨Ap, cp⟩, _, z0, z1, _, _, hR, _⟩ := (hBk.below hB (Nat.le_refl _)).at_ hBb
      have hd := Lib.hid (drop_cons hBb)
      have hpl := HP.out B (List.mem_of_getElem? hBb)
      have hk1 : (k : Int) < f.length := by omega
      obtain ⟨ps, n⟩ := B
      dsimp only at *
      have hB2 : Below w.heap.size w (wr.alloc (.cells #[.slice Ap ps.length cp, .int .i64 n] 137)) := hB.alloc hB.size _
      have hR2 := hR.alloc (.cells #[.slice Ap ps.length cp, .int .i64 n] 137)
      have hT0 : Hid (seqIn f s = ((ps.drop 0).any (hasSeq s) || (f.drop (k + 1)).any (bkHas s))) := by rw [Hid, hT.out, hd.out]; rfl
      clear hBb hT hd
      go_wp2
      go_loopw [18] (fun j wl => ∃ (m : Nat), m ≤ ps.length ∧ j = .int .i64 m ∧ Below w.heap.size w wl ∧ Row wl Ap (pgs ps) ∧ Hid (seqIn f s = ((ps.drop m).any (hasSeq s) || (f.drop (k + 1)).any (bkHas s)))) (fun j _ => ps.length - (intOf j).toNat)
      case atStart => exact ⟨0, by omega, rfl, hB2, hR2, hT0⟩
      case round =>
        clear hT0 hB2 hR2
        obtain ⟨m, hm, rfl, hBl, hRl, hT⟩ := hrel
        by_cases hltm : m < ps.length
        · obtain ⟨p, hq⟩ := get_some hltm
          obtain ⟨pb, po, rfl⟩ := hRl.addr (pgs_ne (by rintro rfl; simp at hltm))
          obtain ⟨c0, c1, c2, c3, c4⟩ := hRl.pg hq
          have hd := Lib.hid (drop_cons hq)
          have hm1 : (m : Int) < ps.length := by omega
          have hT1 : Hid (seqIn f s = (hasSeq s p || ((ps.drop (m + 1)).any (hasSeq s) || (f.drop (k + 1)).any (bkHas s)))) := by rw [Hid, hT.out, hd.out, List.any_cons, Bool.or_assoc]
          have hB3 := fun (o : Obj) => hBl.alloc hBl.size o
          have hR3 := fun (o : Obj) => hRl.alloc o
          clear hq hT hd
          by_cases h1 : p.state = 1
          · by_cases h2 : p.rc.seq = s
            · have hi : Hid (hasSeq s p = true) := by unfold Hid hasSeq; simp [h1, h2]
              rw [h1] at c0
              rw [h2] at c2
              clear h1 h2
              go_wp2
              go_ret
              exact ⟨ret_bool (by rw [hT1.out, hi.out]; rfl), hB3 _⟩
            · have hi : Hid (hasSeq s p = false) := by unfold Hid hasSeq; simp [h1, h2]
              rw [h1] at c0
              have h2' : (p.rc.seq == s) = false := by simpa using h2
              clear h1
              go_wp2
              go_roundw
              case rel => exact ⟨m + 1, by omega, by go_num, hB3 _, hR3 _, by rw [Hid, hT1.out, hi.out]; rfl⟩
              case measure => simp [intOf]; omega
          · have hi : Hid (hasSeq s p = false) := by unfold Hid hasSeq; simp [h1]
            have h1' : (p.state == 1) = false := by simpa using h1
            go_wp2
            go_roundw
            case rel => exact ⟨m + 1, by omega, by go_num, hB3 _, hR3 _, by rw [Hid, hT1.out, hi.out]; rfl⟩
            case measure => simp [intOf]; omega
        · obtain rfl : m = ps.length := by omega
          go_wp2
          go_roundw
          case rel => exact ⟨k + 1, by omega, by go_num, hBl, by rw [Hid, hT.out, List.drop_of_length_le (Nat.le_refl _)]; rfl⟩
          case measure => simp [intOf]; omega
    · obtain rfl : k = f.length := by omega
      go_wp2
      go_ret
      exact ⟨ret_bool (by rw [hT.out, List.drop_of_length_le (Nat.le_refl _)]; rfl), hB⟩
/-- what FlashWrite answers -/
def flashWrite (f : List Bk) (block : Int) (r : Rc) (torn : Bool) : List Bk × Bool :=
  if flashOk f = false ∨ blockB block = false ∨ recOk r = false then ([], false) else writeR f block.toNat r torn
theorem clean_le4 {b : Bk} (h : b.pages.length = 4) : clean b ≤ 4 := by rw [← h]; exact clean_le b
end Go.Proofs.Ytbekihiiildgmaa
namespace Go.Proofs.Ytbekihiiildgmaa
set_option linter.unusedVariables false
set_option linter.unusedSimpArgs false
open Go.RowKit Go.Maps
set_option maxHeartbeats 400000
def partly (b : Bk) : Bool := decide (0 < clean b) && decide (clean b < 4)
theorem impl_partlyUsed (b : Bk) (A : Option Addr) (n c : Nat) (w : World) (hn : n = b.pages.length) (hl : b.pages.length < 1000000000000) (hR : Row w A (pgs b.pages)) :
    Calls Try.prog 118 #[.agg #[.slice A n c, .int .i64 b.worn]] w fun e w' => e = .returned (.bool (partly b)) ∧ Below w.heap.size w w' := by
  subst hn
  have hB0 : Below w.heap.size w (w.alloc (.cells #[.slice A b.pages.length c, .int .i64 b.worn] 137)) := by (repeat (first | (with_reducible exact Below.refl _ _) | (with_reducible assumption) | (refine Below.setCell ?_ (by first | omega | exact hB.size | exact hb.size | (have h := hB.size; simp; omega) | (have h := hb.size; simp; omega) | (simp; omega) | simp) _) | (refine Below.alloc ?_ (by first | omega | exact hB.size | exact hb.size | (have h := hB.size; simp; omega) | (have h := hb.size; simp; omega) | (simp; omega) | simp) _) | (refine Below.drew ?_)))
  have hfin : Hid (partly b = (decide (0 < clean b) && decide (clean b < 4))) := rfl
  go_enter Try.func118, Try.ntmps118
  go_wp2_with fail
  refine (impl_freePages b A _ c _ rfl hl (hR.alloc _)).mono ?_
  rintro e w1 ⟨rfl, hb⟩
  have hB1 := hB0.trans (hb.mono (by simp))
  generalize clean b = n at *
  clear hb
  by_cases h0 : 0 < n
  · have h0' : (0 : Int) < n := by omega
    by_cases h4 : n < 4
    · have h4' : (n : Int) < 4 := by omega
      go_wp2
      go_ret
      exact ⟨ret_bool (by rw [hfin.out]; first | (simp [h0, h4]; done) | (simp [h0, h4]; omega)), hB1⟩
    · have h4' : ¬ (n : Int) < 4 := by omega
      go_wp2
      go_ret
      exact ⟨ret_bool (by rw [hfin.out]; first | (simp [h0, h4]; done) | (simp [h0, h4]; omega)), hB1⟩
  · have h0' : ¬ (0 : Int) < n := by omega
    go_wp2
    go_ret
    exact ⟨ret_bool (by rw [hfin.out]; simp [h0]), hB1⟩
end Go.Proofs.Ytbekihiiildgmaa
namespace Go.Proofs.Ytbekihiiildgmaa
set_option linter.unusedVariables false
set_option linter.unusedSimpArgs false
def spClash (a b : Span) : Bool := decide (0 < a.2) && (decide (0 < b.2) && (decide (b.1 ≤ a.2) && decide (a.1 ≤ b.2)))
def ordGo (ss : List Span) : Nat → Int → List Span → Option Int
  | _, n, [] => some n
  | i, n, a :: r => if (ss.take i).any (spClash a) = true then none else ordGo ss (i + 1) (max n a.2) r
def partOrd (ss : List Span) (n : Int) : Nat → Nat → List Bk → Bool
  | _, c, [] => decide (c ≤ 1)
  | i, c, b :: r => if partly b = true then (if 0 < (ss.getD i (0, 0)).2 ∧ (ss.getD i (0, 0)).2 < n then false else partOrd ss n (i + 1) (c + 1) r) else partOrd ss n (i + 1) c r
def ordI (ss : List Span) (f : List Bk) : Bool := match ordGo ss 0 0 ss with
  | none => false
  | some n => partOrd ss n 0 0 f
def findOrderI (f : List Bk) : Bool := if flashOk f = true then ordI (spOf (allFrom 0 f)) f else false
def bad1 (i k : Nat) (a b : Bk) : Bool := decide (i ≠ k) && (decide (0 < most a) && (decide (0 < most b) && (decide (least a < most b) && decide (least b < most a))))
def bad2 (i k : Nat) (a b : Bk) : Bool := decide (i ≠ k) && (partly a && (partly b || (decide (0 < most a) && decide (most a < most b))))
def rowOrd (i : Nat) (a : Bk) : Nat → List Bk → Bool
  | _, [] => true
  | k, b :: r => if bad1 i k a b = true ∨ bad2 i k a b = true then false else rowOrd i a (k + 1) r
def allOrd (f : List Bk) : Nat → List Bk → Bool
  | _, [] => true
  | i, a :: r => if rowOrd i a 0 f = true then allOrd f (i + 1) r else false
def findOrder (f : List Bk) : Bool := if flashOk f = true then allOrd f 0 f else false
end Go.Proofs.Ytbekihiiildgmaa
