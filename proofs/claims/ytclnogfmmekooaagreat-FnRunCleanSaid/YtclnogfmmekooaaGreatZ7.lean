/- What the laws' walks share: words, plain laws, and the walks of functions, part 7. -/
import Derived.Deep.RegionHeld3
import Derived.BigQuiet
import Derived.Test.YtclnogfmmekooaaGreatZ6
set_option linter.unusedVariables false
set_option linter.unusedSimpArgs false
set_option maxHeartbeats 16000000
set_option maxRecDepth 100000
namespace Go.Proofs.YtclnogfmmekooaaGreat
section
open Go.RowKit Go.Shelf
attribute [local go_sem] Oper.semAt_some
abbrev Sub (n : Nat) := { x : PgAt // x.1 < n }
theorem zas (F : Fence) (n : Nat) (hF : F.fn 73) (hro : F.round = none) (hn : 1 ≤ n) (Bs n₀ g o c : Nat) (f : List Bk) (hs : List (Option Addr × Nat)) (w : World) (hB : Bs < w.heap.size) (hn₀ : n₀ ≤ w.heap.size)
 (hBs : w.cell? ⟨Bs, 0, none⟩ = some (.slice (some ⟨g, o, none⟩) f.length c)) (hl : f.length < 1000000000000) (hp : ∀ b ∈ f, b.pages.length < 1000000000000)
 (hBk : Bks w (some ⟨g, o, none⟩) f hs) (hlow : ∀ b, fblk (some ⟨g, o, none⟩) hs b -> b < n₀) :
 SeqStopsK F n Tryz.prog 73 #[.pointer (some ⟨Bs, 0, none⟩)] (fun x : Sub f.length => encP x.1) (Below n₀) (fun ys => ys.map Subtype.val = zj 0 f) (fun pre => pre.map Subtype.val <+: zj 0 f) (zj 0 f).length w := fun l J Jx W hW hJ _ hY h0 => by
 refine (X4 F n hF hro hn l Bs n₀ g o c f hs (fun pre V => ∃ pre' : List (Sub f.length), pre'.map Subtype.val = pre ∧ J pre' V) (fun pre V => ∃ pre' : List (Sub f.length), pre'.map Subtype.val = pre ∧ Jx pre' V) W (Nat.le_trans hn₀ hW.size)
  (fun s X Y row hs hg hr => by obtain ⟨p, e, h⟩ := hs; exact ⟨p, e, hJ p X Y row h hg hr⟩) (fun pre x W1 h1 h2 h3 => ?_) ((hW.cell (p := ⟨Bs, 0, none⟩) hB).trans hBs) hl hp (hBk.keep fun q hq hl => hW.block q (by omega)) hlow ⟨[], rfl, h0⟩).mono ?_
 . obtain ⟨pre', rfl, hj⟩ := h1
   refine (hY pre' ⟨x, h3.1⟩ W1 hj (by simpa using h2)).mono ?_
   rintro e V (⟨rfl, hj2, hk⟩ | ⟨rfl, hj2⟩)
   . exact .inl ⟨rfl, ⟨_, by simp, hj2⟩, hk⟩
   . exact .inr ⟨rfl, _, by simp, hj2⟩
 . rintro e V ⟨he, ⟨ys, rfl, pre', h1, h2⟩ | ⟨pre, h0, pre', rfl, h2⟩⟩
   . exact ⟨he, .inl ⟨pre', h1, h2⟩⟩
   . exact ⟨he, .inr ⟨pre', h0, h2⟩⟩
abbrev Span := Int × Int
def Spn (s : Span) : List Value := [.int .i64 s.1, .int .i64 s.2]
def spv (ss : List Span) : List Value := ss.flatMap Spn
def q9 (s : Span) (q : Int) : Int := if s.1 = 0 ∨ q < s.1 then q else s.1
def Zb (ss : List Span) (x : PgAt) : List Span := if x.2.2.state = 1 then ss.set x.1 (q9 (ss.getD x.1 (0, 0)) x.2.2.rc.seq, max (ss.getD x.1 (0, 0)).2 x.2.2.rc.seq) else ss
def spOf (pre : List PgAt) : List Span := pre.foldl Zb (List.replicate 4 (0, 0))
theorem zku (pre : List PgAt) (x : PgAt) : spOf (pre ++ [x]) = Zb (spOf pre) x := by unfold spOf; rw [List.foldl_append]; rfl
theorem zja (ss : List Span) (x : PgAt) : (Zb ss x).length = ss.length := by unfold Zb; split <;> simp
theorem zcv (pre : List PgAt) : (spOf pre).length = 4 := by
 have : ∀ (pre : List PgAt) (ss : List Span), (pre.foldl Zb ss).length = ss.length := by
  intro pre
  induction pre with
  | nil => intro ss; rfl
  | cons x pre ih => intro ss; rw [List.foldl_cons, ih, zja]
 rw [spOf, this]; rfl
theorem zgm (A : Option Addr) (vs : List Value) (n₀ : Nat) : OwnFrom n₀ (fun (_ : Unit) W => Row W A vs) := fun _ X Y row hs hg hr hn => by
 obtain ⟨b, o, rfl, hc⟩ := hs hn
 exact ⟨b, o, rfl, fun j u hj => ⟨cell_kept (hc j u hj).1 hg (fun r e => (hr r e).2), (frozen_kept (hc j u hj).1 hg (fun r e => (hr r e).2)).trans (hc j u hj).2⟩⟩
theorem Row.span {w : World} {b k : Nat} {ss : List Span} {s : Span} (h : Row w (some ⟨b, 0, none⟩) (spv ss)) (hk : ss[k]? = some s) :
 w.cell? ⟨b, k * 2, none⟩ = some (.int .i64 s.1) ∧ w.cell? ⟨b, k * 2 + 1, none⟩ = some (.int .i64 s.2) ∧ w.frozen? ⟨b, k * 2, none⟩ = false ∧ w.frozen? ⟨b, k * 2 + 1, none⟩ = false := by
 have hne : spv ss ≠ [] := by
  intro e
  cases ss with
  | nil => simp at hk
  | cons a ss => simp [spv, Spn] at e
 obtain ⟨b', o', he, hc⟩ := h hne
 cases he
 have hg : ∀ j u, (Spn s)[j]? = some u -> j < 2 -> w.cell? ⟨b, 0 + (k * 2 + j), none⟩ = some u ∧ w.frozen? ⟨b, 0 + (k * 2 + j), none⟩ = false := fun j u hj hl => hc (k * 2 + j) u (by rw [spv, jq _ 2 (fun _ => rfl) ss k j s hk hl]; exact hj)
 have h0 := hg 0 _ rfl (by omega)
 have h1 := hg 1 _ rfl (by omega)
 rw [Nat.zero_add] at h0 h1
 exact ⟨h0.1, h1.1, h0.2, h1.2⟩
theorem zks : ∀ (ss : List Span) (k : Nat) (s : Span), k < ss.length -> spv (ss.set k s) = setL (spv ss) (k * 2) (Spn s)
 | [], k, s, h => by simp at h
 | q :: ss, 0, s, _ => by simp [spv, Spn, setL]
 | q :: ss, k + 1, s, h => by
   have ih := zks ss k s (by simpa using h)
   rw [List.set_cons_succ]
   show Spn q ++ spv (ss.set k s) = setL (Spn q ++ spv ss) _ _
   rw [ih, show (k + 1) * 2 = (Spn q).length + k * 2 by simp [Spn]; omega, yj]
theorem zo2 (ss : List Span) : (spv ss).length = ss.length * 2 := Kh _ 2 (fun _ => rfl) ss
theorem zjj (w : World) : (Instr.makeSlice 116 (.int .i64 4) (.int .i64 4)).run Tryz.prog w = .ok (.slice (some ⟨w.heap.size, 0, none⟩) 4 4) (w.alloc (.cells #[.int .i64 0, .int .i64 0, .int .i64 0, .int .i64 0, .int .i64 0, .int .i64 0, .int .i64 0, .int .i64 0] 119)) := by kernel_rfl
theorem Yo (f : List Bk) (hs : List (Option Addr × Nat)) (g o c : Nat) (w : World) (hl : f.length = 4) (hp : ∀ b ∈ f, b.pages.length = 4) (hBk : Bks w (some ⟨g, o, none⟩) f hs) (hlow : ∀ b, fblk (some ⟨g, o, none⟩) hs b -> b < w.heap.size) :
 Calls Tryz.prog 58 #[.slice (some ⟨g, o, none⟩) 4 c] w fun e w' => ∃ b, e = .returned (.slice (some ⟨b, 0, none⟩) 4 4) ∧ w.heap.size ≤ b ∧ Row w' (some ⟨b, 0, none⟩) (spv (spOf (zj 0 f))) ∧ Below w.heap.size w w' := by
 refine (callsIn_wide (n := 6)).1 ?_
 refine callsIn_of_wp_marks Tryz.func58 rfl trivial ?_ rfl
 simp only [Tryz.ntmps58, List.size_toArray, List.length_cons, List.length_nil, Nat.reduceAdd, Nat.reduceSub, Array.replicate_succ, Array.replicate_zero, List.push_toArray, List.append_toArray, List.nil_append, List.cons_append]
 have hmk := zjj
 have HL := Lib.hid hl
 have HP := Lib.hid hp
 clear hl hp
 gi_wp2_with (first | (refine ⟨trivial, ?_⟩; gi_at_call 39; refine (Xd Fence.wide _ trivial rfl _ _ _ _).mono ?_; rintro e w2 ⟨rfl, rfl⟩))
 have hsz : ((((w.alloc (.cells #[.int .i64 0, .int .i64 0, .int .i64 0, .int .i64 0, .int .i64 0, .int .i64 0, .int .i64 0, .int .i64 0] 119)).alloc (.cells #[.slice (some ⟨w.heap.size, 0, none⟩) 4 4] 116)).alloc (.cells #[.slice (some ⟨g, o, none⟩) 4 c] 25))).heap.size = w.heap.size + 3 := by simp
 have bV := (Boxed.new (w.alloc (.cells #[.int .i64 0, .int .i64 0, .int .i64 0, .int .i64 0, .int .i64 0, .int .i64 0, .int .i64 0, .int .i64 0] 119)) 116 (.slice (some ⟨w.heap.size, 0, none⟩) 4 4)).alloc (.cells #[.slice (some ⟨g, o, none⟩) 4 c] 25)
 have bA := Boxed.new ((w.alloc (.cells #[.int .i64 0, .int .i64 0, .int .i64 0, .int .i64 0, .int .i64 0, .int .i64 0, .int .i64 0, .int .i64 0] 119)).alloc (.cells #[.slice (some ⟨w.heap.size, 0, none⟩) 4 4] 116)) 25 (.slice (some ⟨g, o, none⟩) 4 c)
 simp only [World.size_alloc] at bV bA
 have hR0 : Row _ _ (spv (spOf [])) := ((Row.new w #[.int .i64 0, .int .i64 0, .int .i64 0, .int .i64 0, .int .i64 0, .int .i64 0, .int .i64 0, .int .i64 0] 119).alloc (.cells #[.slice (some ⟨w.heap.size, 0, none⟩) 4 4] 116)).alloc (.cells #[.slice (some ⟨g, o, none⟩) 4 c] 25)
 have hBk0 := ((hBk.alloc (.cells #[.int .i64 0, .int .i64 0, .int .i64 0, .int .i64 0, .int .i64 0, .int .i64 0, .int .i64 0, .int .i64 0] 119)).alloc (.cells #[.slice (some ⟨w.heap.size, 0, none⟩) 4 4] 116)).alloc (.cells #[.slice (some ⟨g, o, none⟩) 4 c] 25)
 have hB0 : Below w.heap.size w (((w.alloc (.cells #[.int .i64 0, .int .i64 0, .int .i64 0, .int .i64 0, .int .i64 0, .int .i64 0, .int .i64 0, .int .i64 0] 119)).alloc (.cells #[.slice (some ⟨w.heap.size, 0, none⟩) 4 4] 116)).alloc (.cells #[.slice (some ⟨g, o, none⟩) 4 c] 25)) := (((Below.refl _ w).alloc nl _).alloc (by simp) _).alloc (by simp; omega) _
 obtain ⟨W0, hW0⟩ : ∃ W0, ((w.alloc (.cells #[.int .i64 0, .int .i64 0, .int .i64 0, .int .i64 0, .int .i64 0, .int .i64 0, .int .i64 0, .int .i64 0] 119)).alloc (.cells #[.slice (some ⟨w.heap.size, 0, none⟩) 4 4] 116)).alloc (.cells #[.slice (some ⟨g, o, none⟩) 4 c] 25) = W0 := ⟨_, rfl⟩
 rw [hW0] at bV bA hR0 hB0 hsz hBk0 ⊢
 clear hW0 hmk
 have hcA : W0.cell? ⟨w.heap.size + 1 + 1, 0, none⟩ = some (.slice (some ⟨g, o, none⟩) f.length c) := by rw [HL.out]; exact bA.cell
 refine wpIn_rangeFunc_ownH rfl (by omega) (gf := 73) (lb := #[.pointer (some ⟨w.heap.size + 1 + 1, 0, none⟩)]) rfl trivial (enters_of Tryz.func73 (by kernel_rfl) rfl)
  (zas Fence.wide _ trivial rfl (by omega) (w.heap.size + 1 + 1) w.heap.size g o c f hs W0 (by omega) (by omega) hcA (by rw [HL.out]; omega) (fun b hb => by rw [HP.out b hb]; omega) hBk0 hlow) belowK_t (belowK_b (by omega)) (Below.refl _ _) (fun _ => rfl)
  (fun pre W => (Boxed W (w.heap.size + 1) 116 (.slice (some ⟨w.heap.size, 0, none⟩) 4 4) ∧ Row W (some ⟨w.heap.size, 0, none⟩) (spv (spOf (pre.map Subtype.val)))) ∧ Below w.heap.size w W)
  (fun _ _ _ => False)
  (OwnFrom.and (OwnFrom.and (Own.from (boxed_own _ _ (fun _ => _)) _) (fun pre X Y row h hg hr => zgm _ _ _ () X Y row h hg hr)) (ownFrom_below nl (by omega)))
  (fun _ _ _ _ _ hs _ _ => hs)
  ⟨⟨bV, hR0⟩, hB0⟩
  (fun x a' W => ∃ B4 B5, w.heap.size + 1 < B4 ∧ w.heap.size + 1 < B5 ∧ Laid W B4 74 #[.int .i64 (x.1.1 : Int), .int .i64 (x.1.2.1 : Int)] ∧ Laid W B5 76 (pgv x.1.2.2) ∧ a' = { tmps := #[.slice (some ⟨g, o, none⟩) 4 c, undef, .slice none 0 0, .pointer (some ⟨w.heap.size + 1, 0, none⟩), .pointer (some ⟨B4, 0, none⟩), .pointer (some ⟨B5, 0, none⟩), undef, .slice (some ⟨g, o, none⟩) 4 c, .int .i64 4, .slice (some ⟨w.heap.size, 0, none⟩) 4 4, .slice (some ⟨g, o, none⟩) 4 c, .func (.func 73) #[] #[.pointer (some ⟨w.heap.size + 1 + 1, 0, none⟩)], .agg #[.int .i64 (x.1.1 : Int), .int .i64 (x.1.2.1 : Int)], .agg (pgv x.1.2.2), undef, undef, undef, undef, undef, undef, undef, undef, undef, undef, undef, undef, undef, undef, undef, undef, undef, undef, undef, undef, undef, undef, undef, undef, undef, undef, undef, undef, undef, undef, undef, undef, undef, undef, undef, undef, undef, undef, undef, undef], defers := [] })
  (fun x a' _ X Y row hs hg hr => by obtain ⟨B4, B5, h1, h2, h3, h4, h5⟩ := hs; exact ⟨B4, B5, h1, h2, Ji B4 _ _ _ () X Y row h3 hg hr, Ji B5 _ _ _ () X Y row h4 hg hr, h5⟩)
  ?assign ?body ?done ?stop
 case assign =>
  rintro l pre x W K ⟨⟨bV1, hR1⟩, hB1⟩ hK
  dsimp only [encP]
  gi_wp2
  have hlt := bV1.lt
  exact hK _ _ (((KeepsOthers.alloc _ _).trans (KeepsOthers.alloc _ _)).from _) (((Below.refl _ W).alloc hB1.size _).alloc (by simp; omega) _) ⟨⟨(bV1.alloc _).alloc _, (hR1.alloc _).alloc _⟩, (hB1.alloc hB1.size _).alloc (by simp; omega) _⟩ ⟨W.heap.size, W.heap.size + 1, hlt, by omega, (Below.heap_alloc _ _ _ (by simp)).trans (World.alloc_heap_new W _), by have := World.alloc_heap_new (W.alloc (.cells #[.int .i64 (x.1.1 : Int), .int .i64 (x.1.2.1 : Int)] 74)) (.cells (pgv x.1.2.2) 76); rwa [World.size_alloc] at this, rfl⟩
 case body =>
  rintro l pre x a' W hl ⟨r, hr⟩ ⟨⟨bV1, hR1⟩, hB1⟩ ⟨B4, B5, h4, h5, L4, L5, rfl⟩ hlt
  have hx4 : x.1.1 < 4 := Nat.lt_of_lt_of_eq x.2 HL.out
  have hlen := zcv (pre.map Subtype.val)
  have hst : Hid (spOf ((pre ++ [x]).map Subtype.val) = Zb (spOf (pre.map Subtype.val)) x.1) := by rw [Hid, List.map_append]; exact zku _ _
  generalize spOf (pre.map Subtype.val) = ss at *
  obtain ⟨sp, hsp⟩ := zd (l := ss) (k := x.1.1) (by omega)
  have hgd : ss.getD x.1.1 (0, 0) = sp := by rw [List.getD_eq_getElem?_getD, hsp]; rfl
  obtain ⟨l0, l1, l2, l3⟩ := hR1.span hsp
  have cV := bV1.cell
  have x0 : W.cell? ⟨B5, 0, none⟩ = some (.int .i64 x.1.2.2.state) := L5.cell 0 rfl
  have x2 : W.cell? ⟨B5, 2, none⟩ = some (.int .i64 x.1.2.2.rc.seq) := L5.cell 2 rfl
  have s0 : W.cell? ⟨B4, 0, none⟩ = some (.int .i64 (x.1.1 : Int)) := L4.cell 0 rfl
  have hx4' : (x.1.1 : Int) < 4 := by omega
  by_cases h1 : x.1.2.2.state = 1
  . have hst2 : Hid (spOf ((pre ++ [x]).map Subtype.val) = ss.set x.1.1 (q9 sp x.1.2.2.rc.seq, max sp.2 x.1.2.2.rc.seq)) := by rw [Hid, hst.out]; unfold Zb; rw [if_pos h1, hgd]
    have hrow : ∀ Wf : World, xr W Wf w.heap.size (x.1.1 * 2) (Spn (q9 sp x.1.2.2.rc.seq, max sp.2 x.1.2.2.rc.seq)) -> Row Wf (some ⟨w.heap.size, 0, none⟩) (spv (spOf ((pre ++ [x]).map Subtype.val))) := fun Wf hW => by
     rw [hst2.out, zks _ _ _ (by omega)]
     exact xr.row (o := 0) (by rw [Nat.zero_add]; exact hW) hR1 (by rw [zo2]; simp [Spn]; omega)
    have HROW := Lib.hid hrow
    rw [h1] at x0
    clear hrow hst hst2 hgd hsp h1
    by_cases hz : sp.1 = 0
    . have hlo : Hid (q9 sp x.1.2.2.rc.seq = x.1.2.2.rc.seq) := by unfold Hid q9; rw [if_pos (.inl hz)]
      rw [hz] at l0
      clear hz
      gi_wp2
      refine yl (S := fun w' => w'.cell? ⟨w.heap.size, x.1.1 * 2, none⟩ = some (.int .i64 0) ∧ w'.cell? ⟨B5, 2, none⟩ = some (.int .i64 x.1.2.2.rc.seq)) (by kernel_rfl) (by kernel_rfl) ⟨l0, x2⟩ (fun hHeld => ?_)
      refine tA 0 hHeld ?_
      try simp only [Act.put, jj]
      refine tA 1 hHeld ?_
      try simp only [Act.put, jj]
      refine tA 2 hHeld ?_
      try simp only [Act.put, jj]
      refine tA 3 hHeld ?_
      try simp only [Act.put, jj]
      refine tA 4 hHeld ?_
      try simp only [Act.put, jj]
      refine tA 5 hHeld ?_
      try simp only [Act.put, jj]
      refine tB 6 hHeld ?_
      try simp only [Act.put, jj]
      refine tB 7 hHeld ?_
      try simp only [Act.put, jj]
      refine tB 8 hHeld ?_
      try simp only [Act.put, jj]
      refine tB 9 hHeld ?_
      try simp only [Act.put, jj]
      refine tB 10 hHeld ?_
      try simp only [Act.put, jj]
      refine tB 11 hHeld ?_
      try simp only [Act.put, jj]
      refine tB 12 hHeld ?_
      try simp only [Act.put, jj]
      refine tB 13 hHeld ?_
      try simp only [Act.put, jj]
      refine tA 14 hHeld ?_
      try simp only [Act.put, jj]
      refine wpAnyH_done (by kernel_rfl) ?_ _
      simp only [z9]
      gi_wp2
      by_cases hmx : sp.2 < x.1.2.2.rc.seq
      . have hmv : Hid (max sp.2 x.1.2.2.rc.seq = x.1.2.2.rc.seq) := by unfold Hid; omega
        refine jg (by kernel_rfl) (by kernel_rfl) ?_
        refine tC 0 ?_
        try simp only [Act.put, jj]
        refine tC 1 ?_
        try simp only [Act.put, jj]
        refine tC 2 ?_
        try simp only [Act.put, jj]
        refine tC 3 ?_
        try simp only [Act.put, jj]
        refine tC 5 ?_
        try simp only [Act.put, jj]
        refine tC 6 ?_
        try simp only [Act.put, jj]
        refine wpAny_ready (rs := [4, 7]) (by kernel_rfl) (by simp) ?_
        refine AllReady.cons rfl (fun K hK => ?_) (AllReady.cons rfl (fun K hK => ?_) AllReady.nil)
        . go_simp
          refine hK _ _ ?_
          clear hK K
          try simp only [Act.put, jj]
          refine wpAny_ready (rs := [7]) (by kernel_rfl) (by simp) ?_
          refine AllReady.cons rfl (fun K hK => ?_) AllReady.nil
          go_simp
          refine hK _ _ ?_
          clear hK K
          try simp only [Act.put, jj]
          refine tC 8 ?_
          try simp only [Act.put, jj]
          refine tC 9 ?_
          try simp only [Act.put, jj]
          refine tC 10 ?_
          try simp only [Act.put, jj]
          refine wpAny_ready (rs := [11]) (by kernel_rfl) (by simp) ?_
          refine AllReady.cons rfl (fun K hK => ?_) AllReady.nil
          go_simp
          refine hK _ _ ?_
          clear hK K
          try simp only [Act.put, jj]
          refine wpAny_done (by kernel_rfl) ?_ _
          simp only [z9]
          have hW : xr W ((W.setCell ⟨w.heap.size, x.1.1 * 2, none⟩ (.int .i64 x.1.2.2.rc.seq)).setCell ⟨w.heap.size, x.1.1 * 2 + 1, none⟩ (.int .i64 x.1.2.2.rc.seq)) w.heap.size (x.1.1 * 2) (Spn (q9 sp x.1.2.2.rc.seq, max sp.2 x.1.2.2.rc.seq)) := by
           rw [hlo.out, hmv.out]
           exact zn w.heap.size [.int .i64 x.1.2.2.rc.seq, .int .i64 x.1.2.2.rc.seq] (x.1.1 * 2) W (fun j hj => by
            match j, hj with
            | 0, _ => exact ⟨_, l0⟩
            | 1, _ => exact ⟨_, l1⟩)
          have hBL : Below w.heap.size W ((W.setCell ⟨w.heap.size, x.1.1 * 2, none⟩ (.int .i64 x.1.2.2.rc.seq)).setCell ⟨w.heap.size, x.1.1 * 2 + 1, none⟩ (.int .i64 x.1.2.2.rc.seq)).drew.drew := ((((Below.refl w.heap.size W).setCell (p := ⟨w.heap.size, x.1.1 * 2, none⟩) nl (.int .i64 x.1.2.2.rc.seq)).setCell (p := ⟨w.heap.size, x.1.1 * 2 + 1, none⟩) nl (.int .i64 x.1.2.2.rc.seq)).drew).drew
          have hBX : Boxed ((W.setCell ⟨w.heap.size, x.1.1 * 2, none⟩ (.int .i64 x.1.2.2.rc.seq)).setCell ⟨w.heap.size, x.1.1 * 2 + 1, none⟩ (.int .i64 x.1.2.2.rc.seq)).drew.drew (w.heap.size + 1) 116 (.slice (some ⟨w.heap.size, 0, none⟩) 4 4) := (hW.block (w.heap.size + 1) (by omega)).trans bV1
          have hRW : Row ((W.setCell ⟨w.heap.size, x.1.1 * 2, none⟩ (.int .i64 x.1.2.2.rc.seq)).setCell ⟨w.heap.size, x.1.1 * 2 + 1, none⟩ (.int .i64 x.1.2.2.rc.seq)).drew.drew (some ⟨w.heap.size, 0, none⟩) (spv (spOf ((pre ++ [x]).map Subtype.val))) := (HROW.out _ hW).drew.drew
          clear hW HROW
          gi_wp2
          exact ⟨((((KeepsOthers.setCell _ _ _).trans (KeepsOthers.setCell _ _ _)).trans (KeepsOthers.drew _)).trans (KeepsOthers.drew _)).from _, hBL, ⟨hBX, hRW⟩, hB1.trans hBL⟩
        . go_simp
          refine hK _ _ ?_
          clear hK K
          try simp only [Act.put, jj]
          refine wpAny_ready (rs := [4]) (by kernel_rfl) (by simp) ?_
          refine AllReady.cons rfl (fun K hK => ?_) AllReady.nil
          go_simp
          refine hK _ _ ?_
          clear hK K
          try simp only [Act.put, jj]
          refine tC 8 ?_
          try simp only [Act.put, jj]
          refine tC 9 ?_
          try simp only [Act.put, jj]
          refine tC 10 ?_
          try simp only [Act.put, jj]
          refine wpAny_ready (rs := [11]) (by kernel_rfl) (by simp) ?_
          refine AllReady.cons rfl (fun K hK => ?_) AllReady.nil
          go_simp
          refine hK _ _ ?_
          clear hK K
          try simp only [Act.put, jj]
          refine wpAny_done (by kernel_rfl) ?_ _
          simp only [z9]
          have hW : xr W ((W.setCell ⟨w.heap.size, x.1.1 * 2, none⟩ (.int .i64 x.1.2.2.rc.seq)).setCell ⟨w.heap.size, x.1.1 * 2 + 1, none⟩ (.int .i64 x.1.2.2.rc.seq)) w.heap.size (x.1.1 * 2) (Spn (q9 sp x.1.2.2.rc.seq, max sp.2 x.1.2.2.rc.seq)) := by
           rw [hlo.out, hmv.out]
           exact zn w.heap.size [.int .i64 x.1.2.2.rc.seq, .int .i64 x.1.2.2.rc.seq] (x.1.1 * 2) W (fun j hj => by
            match j, hj with
            | 0, _ => exact ⟨_, l0⟩
            | 1, _ => exact ⟨_, l1⟩)
          have hBL : Below w.heap.size W ((W.setCell ⟨w.heap.size, x.1.1 * 2, none⟩ (.int .i64 x.1.2.2.rc.seq)).setCell ⟨w.heap.size, x.1.1 * 2 + 1, none⟩ (.int .i64 x.1.2.2.rc.seq)).drew.drew := ((((Below.refl w.heap.size W).setCell (p := ⟨w.heap.size, x.1.1 * 2, none⟩) nl (.int .i64 x.1.2.2.rc.seq)).setCell (p := ⟨w.heap.size, x.1.1 * 2 + 1, none⟩) nl (.int .i64 x.1.2.2.rc.seq)).drew).drew
          have hBX : Boxed ((W.setCell ⟨w.heap.size, x.1.1 * 2, none⟩ (.int .i64 x.1.2.2.rc.seq)).setCell ⟨w.heap.size, x.1.1 * 2 + 1, none⟩ (.int .i64 x.1.2.2.rc.seq)).drew.drew (w.heap.size + 1) 116 (.slice (some ⟨w.heap.size, 0, none⟩) 4 4) := (hW.block (w.heap.size + 1) (by omega)).trans bV1
          have hRW : Row ((W.setCell ⟨w.heap.size, x.1.1 * 2, none⟩ (.int .i64 x.1.2.2.rc.seq)).setCell ⟨w.heap.size, x.1.1 * 2 + 1, none⟩ (.int .i64 x.1.2.2.rc.seq)).drew.drew (some ⟨w.heap.size, 0, none⟩) (spv (spOf ((pre ++ [x]).map Subtype.val))) := (HROW.out _ hW).drew.drew
          clear hW HROW
          gi_wp2
          exact ⟨((((KeepsOthers.setCell _ _ _).trans (KeepsOthers.setCell _ _ _)).trans (KeepsOthers.drew _)).trans (KeepsOthers.drew _)).from _, hBL, ⟨hBX, hRW⟩, hB1.trans hBL⟩
      . have hmv : Hid (max sp.2 x.1.2.2.rc.seq = sp.2) := by unfold Hid; omega
        refine jg (by kernel_rfl) (by kernel_rfl) ?_
        refine tC 0 ?_
        try simp only [Act.put, jj]
        refine tC 1 ?_
        try simp only [Act.put, jj]
        refine tC 2 ?_
        try simp only [Act.put, jj]
        refine tC 3 ?_
        try simp only [Act.put, jj]
        refine tC 5 ?_
        try simp only [Act.put, jj]
        refine tC 6 ?_
        try simp only [Act.put, jj]
        refine wpAny_ready (rs := [4, 7]) (by kernel_rfl) (by simp) ?_
        refine AllReady.cons rfl (fun K hK => ?_) (AllReady.cons rfl (fun K hK => ?_) AllReady.nil)
        . go_simp
          refine hK _ _ ?_
          clear hK K
          try simp only [Act.put, jj]
          refine wpAny_ready (rs := [7]) (by kernel_rfl) (by simp) ?_
          refine AllReady.cons rfl (fun K hK => ?_) AllReady.nil
          go_simp
          refine hK _ _ ?_
          clear hK K
          try simp only [Act.put, jj]
          refine tC 8 ?_
          try simp only [Act.put, jj]
          refine tC 9 ?_
          try simp only [Act.put, jj]
          refine tC 10 ?_
          try simp only [Act.put, jj]
          refine wpAny_ready (rs := [11]) (by kernel_rfl) (by simp) ?_
          refine AllReady.cons rfl (fun K hK => ?_) AllReady.nil
          go_simp
          refine hK _ _ ?_
          clear hK K
          try simp only [Act.put, jj]
          refine wpAny_done (by kernel_rfl) ?_ _
          simp only [z9]
          have hW : xr W ((W.setCell ⟨w.heap.size, x.1.1 * 2, none⟩ (.int .i64 x.1.2.2.rc.seq)).setCell ⟨w.heap.size, x.1.1 * 2 + 1, none⟩ (.int .i64 sp.2)) w.heap.size (x.1.1 * 2) (Spn (q9 sp x.1.2.2.rc.seq, max sp.2 x.1.2.2.rc.seq)) := by
           rw [hlo.out, hmv.out]
           exact zn w.heap.size [.int .i64 x.1.2.2.rc.seq, .int .i64 sp.2] (x.1.1 * 2) W (fun j hj => by
            match j, hj with
            | 0, _ => exact ⟨_, l0⟩
            | 1, _ => exact ⟨_, l1⟩)
          have hBL : Below w.heap.size W ((W.setCell ⟨w.heap.size, x.1.1 * 2, none⟩ (.int .i64 x.1.2.2.rc.seq)).setCell ⟨w.heap.size, x.1.1 * 2 + 1, none⟩ (.int .i64 sp.2)).drew.drew := ((((Below.refl w.heap.size W).setCell (p := ⟨w.heap.size, x.1.1 * 2, none⟩) nl (.int .i64 x.1.2.2.rc.seq)).setCell (p := ⟨w.heap.size, x.1.1 * 2 + 1, none⟩) nl (.int .i64 sp.2)).drew).drew
          have hBX : Boxed ((W.setCell ⟨w.heap.size, x.1.1 * 2, none⟩ (.int .i64 x.1.2.2.rc.seq)).setCell ⟨w.heap.size, x.1.1 * 2 + 1, none⟩ (.int .i64 sp.2)).drew.drew (w.heap.size + 1) 116 (.slice (some ⟨w.heap.size, 0, none⟩) 4 4) := (hW.block (w.heap.size + 1) (by omega)).trans bV1
          have hRW : Row ((W.setCell ⟨w.heap.size, x.1.1 * 2, none⟩ (.int .i64 x.1.2.2.rc.seq)).setCell ⟨w.heap.size, x.1.1 * 2 + 1, none⟩ (.int .i64 sp.2)).drew.drew (some ⟨w.heap.size, 0, none⟩) (spv (spOf ((pre ++ [x]).map Subtype.val))) := (HROW.out _ hW).drew.drew
          clear hW HROW
          gi_wp2
          exact ⟨((((KeepsOthers.setCell _ _ _).trans (KeepsOthers.setCell _ _ _)).trans (KeepsOthers.drew _)).trans (KeepsOthers.drew _)).from _, hBL, ⟨hBX, hRW⟩, hB1.trans hBL⟩
        . go_simp
          refine hK _ _ ?_
          clear hK K
          try simp only [Act.put, jj]
          refine wpAny_ready (rs := [4]) (by kernel_rfl) (by simp) ?_
          refine AllReady.cons rfl (fun K hK => ?_) AllReady.nil
          go_simp
          refine hK _ _ ?_
          clear hK K
          try simp only [Act.put, jj]
          refine tC 8 ?_
          try simp only [Act.put, jj]
          refine tC 9 ?_
          try simp only [Act.put, jj]
          refine tC 10 ?_
          try simp only [Act.put, jj]
          refine wpAny_ready (rs := [11]) (by kernel_rfl) (by simp) ?_
          refine AllReady.cons rfl (fun K hK => ?_) AllReady.nil
          go_simp
          refine hK _ _ ?_
          clear hK K
          try simp only [Act.put, jj]
          refine wpAny_done (by kernel_rfl) ?_ _
          simp only [z9]
          have hW : xr W ((W.setCell ⟨w.heap.size, x.1.1 * 2, none⟩ (.int .i64 x.1.2.2.rc.seq)).setCell ⟨w.heap.size, x.1.1 * 2 + 1, none⟩ (.int .i64 sp.2)) w.heap.size (x.1.1 * 2) (Spn (q9 sp x.1.2.2.rc.seq, max sp.2 x.1.2.2.rc.seq)) := by
           rw [hlo.out, hmv.out]
           exact zn w.heap.size [.int .i64 x.1.2.2.rc.seq, .int .i64 sp.2] (x.1.1 * 2) W (fun j hj => by
            match j, hj with
            | 0, _ => exact ⟨_, l0⟩
            | 1, _ => exact ⟨_, l1⟩)
          have hBL : Below w.heap.size W ((W.setCell ⟨w.heap.size, x.1.1 * 2, none⟩ (.int .i64 x.1.2.2.rc.seq)).setCell ⟨w.heap.size, x.1.1 * 2 + 1, none⟩ (.int .i64 sp.2)).drew.drew := ((((Below.refl w.heap.size W).setCell (p := ⟨w.heap.size, x.1.1 * 2, none⟩) nl (.int .i64 x.1.2.2.rc.seq)).setCell (p := ⟨w.heap.size, x.1.1 * 2 + 1, none⟩) nl (.int .i64 sp.2)).drew).drew
          have hBX : Boxed ((W.setCell ⟨w.heap.size, x.1.1 * 2, none⟩ (.int .i64 x.1.2.2.rc.seq)).setCell ⟨w.heap.size, x.1.1 * 2 + 1, none⟩ (.int .i64 sp.2)).drew.drew (w.heap.size + 1) 116 (.slice (some ⟨w.heap.size, 0, none⟩) 4 4) := (hW.block (w.heap.size + 1) (by omega)).trans bV1
          have hRW : Row ((W.setCell ⟨w.heap.size, x.1.1 * 2, none⟩ (.int .i64 x.1.2.2.rc.seq)).setCell ⟨w.heap.size, x.1.1 * 2 + 1, none⟩ (.int .i64 sp.2)).drew.drew (some ⟨w.heap.size, 0, none⟩) (spv (spOf ((pre ++ [x]).map Subtype.val))) := (HROW.out _ hW).drew.drew
          clear hW HROW
          gi_wp2
          exact ⟨((((KeepsOthers.setCell _ _ _).trans (KeepsOthers.setCell _ _ _)).trans (KeepsOthers.drew _)).trans (KeepsOthers.drew _)).from _, hBL, ⟨hBX, hRW⟩, hB1.trans hBL⟩
    . have hz' : (sp.1 == 0) = false := by simpa using hz
      by_cases hq : x.1.2.2.rc.seq < sp.1
      . have hlo : Hid (q9 sp x.1.2.2.rc.seq = x.1.2.2.rc.seq) := by unfold Hid q9; rw [if_pos (.inr hq)]
        gi_wp2
        refine yl (S := fun w' => w'.cell? ⟨w.heap.size, x.1.1 * 2, none⟩ = some (.int .i64 sp.1) ∧ w'.cell? ⟨B5, 2, none⟩ = some (.int .i64 x.1.2.2.rc.seq)) (by kernel_rfl) (by kernel_rfl) ⟨l0, x2⟩ (fun hHeld => ?_)
        refine tA 0 hHeld ?_
        try simp only [Act.put, jj]
        refine tA 1 hHeld ?_
        try simp only [Act.put, jj]
        refine tA 2 hHeld ?_
        try simp only [Act.put, jj]
        refine tA 3 hHeld ?_
        try simp only [Act.put, jj]
        refine tA 4 hHeld ?_
        try simp only [Act.put, jj]
        refine tA 5 hHeld ?_
        try simp only [Act.put, jj]
        refine tA 6 hHeld ?_
        try simp only [Act.put, jj]
        refine tA 7 hHeld ?_
        try simp only [Act.put, jj]
        refine tA 8 hHeld ?_
        try simp only [Act.put, jj]
        refine tA 9 hHeld ?_
        try simp only [Act.put, jj]
        refine tA 10 hHeld ?_
        try simp only [Act.put, jj]
        refine tA 11 hHeld ?_
        try simp only [Act.put, jj]
        refine tA 12 hHeld ?_
        try simp only [Act.put, jj]
        refine tA 13 hHeld ?_
        try simp only [Act.put, jj]
        refine tA 14 hHeld ?_
        try simp only [Act.put, jj]
        refine wpAnyH_done (by kernel_rfl) ?_ _
        simp only [z9]
        gi_wp2
        by_cases hmx : sp.2 < x.1.2.2.rc.seq
        . have hmv : Hid (max sp.2 x.1.2.2.rc.seq = x.1.2.2.rc.seq) := by unfold Hid; omega
          refine jg (by kernel_rfl) (by kernel_rfl) ?_
          refine tC 0 ?_
          try simp only [Act.put, jj]
          refine tC 1 ?_
          try simp only [Act.put, jj]
          refine tC 2 ?_
          try simp only [Act.put, jj]
          refine tC 3 ?_
          try simp only [Act.put, jj]
          refine tC 5 ?_
          try simp only [Act.put, jj]
          refine tC 6 ?_
          try simp only [Act.put, jj]
          refine wpAny_ready (rs := [4, 7]) (by kernel_rfl) (by simp) ?_
          refine AllReady.cons rfl (fun K hK => ?_) (AllReady.cons rfl (fun K hK => ?_) AllReady.nil)
          . go_simp
            refine hK _ _ ?_
            clear hK K
            try simp only [Act.put, jj]
            refine wpAny_ready (rs := [7]) (by kernel_rfl) (by simp) ?_
            refine AllReady.cons rfl (fun K hK => ?_) AllReady.nil
            go_simp
            refine hK _ _ ?_
            clear hK K
            try simp only [Act.put, jj]
            refine tC 8 ?_
            try simp only [Act.put, jj]
            refine tC 9 ?_
            try simp only [Act.put, jj]
            refine tC 10 ?_
            try simp only [Act.put, jj]
            refine wpAny_ready (rs := [11]) (by kernel_rfl) (by simp) ?_
            refine AllReady.cons rfl (fun K hK => ?_) AllReady.nil
            go_simp
            refine hK _ _ ?_
            clear hK K
            try simp only [Act.put, jj]
            refine wpAny_done (by kernel_rfl) ?_ _
            simp only [z9]
            have hW : xr W ((W.setCell ⟨w.heap.size, x.1.1 * 2, none⟩ (.int .i64 x.1.2.2.rc.seq)).setCell ⟨w.heap.size, x.1.1 * 2 + 1, none⟩ (.int .i64 x.1.2.2.rc.seq)) w.heap.size (x.1.1 * 2) (Spn (q9 sp x.1.2.2.rc.seq, max sp.2 x.1.2.2.rc.seq)) := by
             rw [hlo.out, hmv.out]
             exact zn w.heap.size [.int .i64 x.1.2.2.rc.seq, .int .i64 x.1.2.2.rc.seq] (x.1.1 * 2) W (fun j hj => by
              match j, hj with
              | 0, _ => exact ⟨_, l0⟩
              | 1, _ => exact ⟨_, l1⟩)
            have hBL : Below w.heap.size W ((W.setCell ⟨w.heap.size, x.1.1 * 2, none⟩ (.int .i64 x.1.2.2.rc.seq)).setCell ⟨w.heap.size, x.1.1 * 2 + 1, none⟩ (.int .i64 x.1.2.2.rc.seq)).drew.drew := ((((Below.refl w.heap.size W).setCell (p := ⟨w.heap.size, x.1.1 * 2, none⟩) nl (.int .i64 x.1.2.2.rc.seq)).setCell (p := ⟨w.heap.size, x.1.1 * 2 + 1, none⟩) nl (.int .i64 x.1.2.2.rc.seq)).drew).drew
            have hBX : Boxed ((W.setCell ⟨w.heap.size, x.1.1 * 2, none⟩ (.int .i64 x.1.2.2.rc.seq)).setCell ⟨w.heap.size, x.1.1 * 2 + 1, none⟩ (.int .i64 x.1.2.2.rc.seq)).drew.drew (w.heap.size + 1) 116 (.slice (some ⟨w.heap.size, 0, none⟩) 4 4) := (hW.block (w.heap.size + 1) (by omega)).trans bV1
            have hRW : Row ((W.setCell ⟨w.heap.size, x.1.1 * 2, none⟩ (.int .i64 x.1.2.2.rc.seq)).setCell ⟨w.heap.size, x.1.1 * 2 + 1, none⟩ (.int .i64 x.1.2.2.rc.seq)).drew.drew (some ⟨w.heap.size, 0, none⟩) (spv (spOf ((pre ++ [x]).map Subtype.val))) := (HROW.out _ hW).drew.drew
            clear hW HROW
            gi_wp2
            exact ⟨((((KeepsOthers.setCell _ _ _).trans (KeepsOthers.setCell _ _ _)).trans (KeepsOthers.drew _)).trans (KeepsOthers.drew _)).from _, hBL, ⟨hBX, hRW⟩, hB1.trans hBL⟩
          . go_simp
            refine hK _ _ ?_
            clear hK K
            try simp only [Act.put, jj]
            refine wpAny_ready (rs := [4]) (by kernel_rfl) (by simp) ?_
            refine AllReady.cons rfl (fun K hK => ?_) AllReady.nil
            go_simp
            refine hK _ _ ?_
            clear hK K
            try simp only [Act.put, jj]
            refine tC 8 ?_
            try simp only [Act.put, jj]
            refine tC 9 ?_
            try simp only [Act.put, jj]
            refine tC 10 ?_
            try simp only [Act.put, jj]
            refine wpAny_ready (rs := [11]) (by kernel_rfl) (by simp) ?_
            refine AllReady.cons rfl (fun K hK => ?_) AllReady.nil
            go_simp
            refine hK _ _ ?_
            clear hK K
            try simp only [Act.put, jj]
            refine wpAny_done (by kernel_rfl) ?_ _
            simp only [z9]
            have hW : xr W ((W.setCell ⟨w.heap.size, x.1.1 * 2, none⟩ (.int .i64 x.1.2.2.rc.seq)).setCell ⟨w.heap.size, x.1.1 * 2 + 1, none⟩ (.int .i64 x.1.2.2.rc.seq)) w.heap.size (x.1.1 * 2) (Spn (q9 sp x.1.2.2.rc.seq, max sp.2 x.1.2.2.rc.seq)) := by
             rw [hlo.out, hmv.out]
             exact zn w.heap.size [.int .i64 x.1.2.2.rc.seq, .int .i64 x.1.2.2.rc.seq] (x.1.1 * 2) W (fun j hj => by
              match j, hj with
              | 0, _ => exact ⟨_, l0⟩
              | 1, _ => exact ⟨_, l1⟩)
            have hBL : Below w.heap.size W ((W.setCell ⟨w.heap.size, x.1.1 * 2, none⟩ (.int .i64 x.1.2.2.rc.seq)).setCell ⟨w.heap.size, x.1.1 * 2 + 1, none⟩ (.int .i64 x.1.2.2.rc.seq)).drew.drew := ((((Below.refl w.heap.size W).setCell (p := ⟨w.heap.size, x.1.1 * 2, none⟩) nl (.int .i64 x.1.2.2.rc.seq)).setCell (p := ⟨w.heap.size, x.1.1 * 2 + 1, none⟩) nl (.int .i64 x.1.2.2.rc.seq)).drew).drew
            have hBX : Boxed ((W.setCell ⟨w.heap.size, x.1.1 * 2, none⟩ (.int .i64 x.1.2.2.rc.seq)).setCell ⟨w.heap.size, x.1.1 * 2 + 1, none⟩ (.int .i64 x.1.2.2.rc.seq)).drew.drew (w.heap.size + 1) 116 (.slice (some ⟨w.heap.size, 0, none⟩) 4 4) := (hW.block (w.heap.size + 1) (by omega)).trans bV1
            have hRW : Row ((W.setCell ⟨w.heap.size, x.1.1 * 2, none⟩ (.int .i64 x.1.2.2.rc.seq)).setCell ⟨w.heap.size, x.1.1 * 2 + 1, none⟩ (.int .i64 x.1.2.2.rc.seq)).drew.drew (some ⟨w.heap.size, 0, none⟩) (spv (spOf ((pre ++ [x]).map Subtype.val))) := (HROW.out _ hW).drew.drew
            clear hW HROW
            gi_wp2
            exact ⟨((((KeepsOthers.setCell _ _ _).trans (KeepsOthers.setCell _ _ _)).trans (KeepsOthers.drew _)).trans (KeepsOthers.drew _)).from _, hBL, ⟨hBX, hRW⟩, hB1.trans hBL⟩
        . have hmv : Hid (max sp.2 x.1.2.2.rc.seq = sp.2) := by unfold Hid; omega
          refine jg (by kernel_rfl) (by kernel_rfl) ?_
          refine tC 0 ?_
          try simp only [Act.put, jj]
          refine tC 1 ?_
          try simp only [Act.put, jj]
          refine tC 2 ?_
          try simp only [Act.put, jj]
          refine tC 3 ?_
          try simp only [Act.put, jj]
          refine tC 5 ?_
          try simp only [Act.put, jj]
          refine tC 6 ?_
          try simp only [Act.put, jj]
          refine wpAny_ready (rs := [4, 7]) (by kernel_rfl) (by simp) ?_
          refine AllReady.cons rfl (fun K hK => ?_) (AllReady.cons rfl (fun K hK => ?_) AllReady.nil)
          . go_simp
            refine hK _ _ ?_
            clear hK K
            try simp only [Act.put, jj]
            refine wpAny_ready (rs := [7]) (by kernel_rfl) (by simp) ?_
            refine AllReady.cons rfl (fun K hK => ?_) AllReady.nil
            go_simp
            refine hK _ _ ?_
            clear hK K
            try simp only [Act.put, jj]
            refine tC 8 ?_
            try simp only [Act.put, jj]
            refine tC 9 ?_
            try simp only [Act.put, jj]
            refine tC 10 ?_
            try simp only [Act.put, jj]
            refine wpAny_ready (rs := [11]) (by kernel_rfl) (by simp) ?_
            refine AllReady.cons rfl (fun K hK => ?_) AllReady.nil
            go_simp
            refine hK _ _ ?_
            clear hK K
            try simp only [Act.put, jj]
            refine wpAny_done (by kernel_rfl) ?_ _
            simp only [z9]
            have hW : xr W ((W.setCell ⟨w.heap.size, x.1.1 * 2, none⟩ (.int .i64 x.1.2.2.rc.seq)).setCell ⟨w.heap.size, x.1.1 * 2 + 1, none⟩ (.int .i64 sp.2)) w.heap.size (x.1.1 * 2) (Spn (q9 sp x.1.2.2.rc.seq, max sp.2 x.1.2.2.rc.seq)) := by
             rw [hlo.out, hmv.out]
             exact zn w.heap.size [.int .i64 x.1.2.2.rc.seq, .int .i64 sp.2] (x.1.1 * 2) W (fun j hj => by
              match j, hj with
              | 0, _ => exact ⟨_, l0⟩
              | 1, _ => exact ⟨_, l1⟩)
            have hBL : Below w.heap.size W ((W.setCell ⟨w.heap.size, x.1.1 * 2, none⟩ (.int .i64 x.1.2.2.rc.seq)).setCell ⟨w.heap.size, x.1.1 * 2 + 1, none⟩ (.int .i64 sp.2)).drew.drew := ((((Below.refl w.heap.size W).setCell (p := ⟨w.heap.size, x.1.1 * 2, none⟩) nl (.int .i64 x.1.2.2.rc.seq)).setCell (p := ⟨w.heap.size, x.1.1 * 2 + 1, none⟩) nl (.int .i64 sp.2)).drew).drew
            have hBX : Boxed ((W.setCell ⟨w.heap.size, x.1.1 * 2, none⟩ (.int .i64 x.1.2.2.rc.seq)).setCell ⟨w.heap.size, x.1.1 * 2 + 1, none⟩ (.int .i64 sp.2)).drew.drew (w.heap.size + 1) 116 (.slice (some ⟨w.heap.size, 0, none⟩) 4 4) := (hW.block (w.heap.size + 1) (by omega)).trans bV1
            have hRW : Row ((W.setCell ⟨w.heap.size, x.1.1 * 2, none⟩ (.int .i64 x.1.2.2.rc.seq)).setCell ⟨w.heap.size, x.1.1 * 2 + 1, none⟩ (.int .i64 sp.2)).drew.drew (some ⟨w.heap.size, 0, none⟩) (spv (spOf ((pre ++ [x]).map Subtype.val))) := (HROW.out _ hW).drew.drew
            clear hW HROW
            gi_wp2
            exact ⟨((((KeepsOthers.setCell _ _ _).trans (KeepsOthers.setCell _ _ _)).trans (KeepsOthers.drew _)).trans (KeepsOthers.drew _)).from _, hBL, ⟨hBX, hRW⟩, hB1.trans hBL⟩
          . go_simp
            refine hK _ _ ?_
            clear hK K
            try simp only [Act.put, jj]
            refine wpAny_ready (rs := [4]) (by kernel_rfl) (by simp) ?_
            refine AllReady.cons rfl (fun K hK => ?_) AllReady.nil
            go_simp
            refine hK _ _ ?_
            clear hK K
            try simp only [Act.put, jj]
            refine tC 8 ?_
            try simp only [Act.put, jj]
            refine tC 9 ?_
            try simp only [Act.put, jj]
            refine tC 10 ?_
            try simp only [Act.put, jj]
            refine wpAny_ready (rs := [11]) (by kernel_rfl) (by simp) ?_
            refine AllReady.cons rfl (fun K hK => ?_) AllReady.nil
            go_simp
            refine hK _ _ ?_
            clear hK K
            try simp only [Act.put, jj]
            refine wpAny_done (by kernel_rfl) ?_ _
            simp only [z9]
            have hW : xr W ((W.setCell ⟨w.heap.size, x.1.1 * 2, none⟩ (.int .i64 x.1.2.2.rc.seq)).setCell ⟨w.heap.size, x.1.1 * 2 + 1, none⟩ (.int .i64 sp.2)) w.heap.size (x.1.1 * 2) (Spn (q9 sp x.1.2.2.rc.seq, max sp.2 x.1.2.2.rc.seq)) := by
             rw [hlo.out, hmv.out]
             exact zn w.heap.size [.int .i64 x.1.2.2.rc.seq, .int .i64 sp.2] (x.1.1 * 2) W (fun j hj => by
              match j, hj with
              | 0, _ => exact ⟨_, l0⟩
              | 1, _ => exact ⟨_, l1⟩)
            have hBL : Below w.heap.size W ((W.setCell ⟨w.heap.size, x.1.1 * 2, none⟩ (.int .i64 x.1.2.2.rc.seq)).setCell ⟨w.heap.size, x.1.1 * 2 + 1, none⟩ (.int .i64 sp.2)).drew.drew := ((((Below.refl w.heap.size W).setCell (p := ⟨w.heap.size, x.1.1 * 2, none⟩) nl (.int .i64 x.1.2.2.rc.seq)).setCell (p := ⟨w.heap.size, x.1.1 * 2 + 1, none⟩) nl (.int .i64 sp.2)).drew).drew
            have hBX : Boxed ((W.setCell ⟨w.heap.size, x.1.1 * 2, none⟩ (.int .i64 x.1.2.2.rc.seq)).setCell ⟨w.heap.size, x.1.1 * 2 + 1, none⟩ (.int .i64 sp.2)).drew.drew (w.heap.size + 1) 116 (.slice (some ⟨w.heap.size, 0, none⟩) 4 4) := (hW.block (w.heap.size + 1) (by omega)).trans bV1
            have hRW : Row ((W.setCell ⟨w.heap.size, x.1.1 * 2, none⟩ (.int .i64 x.1.2.2.rc.seq)).setCell ⟨w.heap.size, x.1.1 * 2 + 1, none⟩ (.int .i64 sp.2)).drew.drew (some ⟨w.heap.size, 0, none⟩) (spv (spOf ((pre ++ [x]).map Subtype.val))) := (HROW.out _ hW).drew.drew
            clear hW HROW
            gi_wp2
            exact ⟨((((KeepsOthers.setCell _ _ _).trans (KeepsOthers.setCell _ _ _)).trans (KeepsOthers.drew _)).trans (KeepsOthers.drew _)).from _, hBL, ⟨hBX, hRW⟩, hB1.trans hBL⟩
      . have hlo : Hid (q9 sp x.1.2.2.rc.seq = sp.1) := by unfold Hid q9; rw [if_neg (by rintro (h | h); exact hz h; exact hq h)]
        gi_wp2
        refine yl (S := fun w' => w'.cell? ⟨w.heap.size, x.1.1 * 2, none⟩ = some (.int .i64 sp.1) ∧ w'.cell? ⟨B5, 2, none⟩ = some (.int .i64 x.1.2.2.rc.seq)) (by kernel_rfl) (by kernel_rfl) ⟨l0, x2⟩ (fun hHeld => ?_)
        refine tA 0 hHeld ?_
        try simp only [Act.put, jj]
        refine tA 1 hHeld ?_
        try simp only [Act.put, jj]
        refine tA 2 hHeld ?_
        try simp only [Act.put, jj]
        refine tA 3 hHeld ?_
        try simp only [Act.put, jj]
        refine tA 4 hHeld ?_
        try simp only [Act.put, jj]
        refine tA 5 hHeld ?_
        try simp only [Act.put, jj]
        refine tA 6 hHeld ?_
        try simp only [Act.put, jj]
        refine tA 7 hHeld ?_
        try simp only [Act.put, jj]
        refine tA 8 hHeld ?_
        try simp only [Act.put, jj]
        refine tA 9 hHeld ?_
        try simp only [Act.put, jj]
        refine tA 10 hHeld ?_
        try simp only [Act.put, jj]
        refine tA 11 hHeld ?_
        try simp only [Act.put, jj]
        refine tA 12 hHeld ?_
        try simp only [Act.put, jj]
        refine tA 13 hHeld ?_
        try simp only [Act.put, jj]
        refine tA 14 hHeld ?_
        try simp only [Act.put, jj]
        refine wpAnyH_done (by kernel_rfl) ?_ _
        simp only [z9]
        gi_wp2
        by_cases hmx : sp.2 < x.1.2.2.rc.seq
        . have hmv : Hid (max sp.2 x.1.2.2.rc.seq = x.1.2.2.rc.seq) := by unfold Hid; omega
          refine jg (by kernel_rfl) (by kernel_rfl) ?_
          refine tC 0 ?_
          try simp only [Act.put, jj]
          refine tC 1 ?_
          try simp only [Act.put, jj]
          refine tC 2 ?_
          try simp only [Act.put, jj]
          refine tC 3 ?_
          try simp only [Act.put, jj]
          refine tC 5 ?_
          try simp only [Act.put, jj]
          refine tC 6 ?_
          try simp only [Act.put, jj]
          refine wpAny_ready (rs := [4, 7]) (by kernel_rfl) (by simp) ?_
          refine AllReady.cons rfl (fun K hK => ?_) (AllReady.cons rfl (fun K hK => ?_) AllReady.nil)
          . go_simp
            refine hK _ _ ?_
            clear hK K
            try simp only [Act.put, jj]
            refine wpAny_ready (rs := [7]) (by kernel_rfl) (by simp) ?_
            refine AllReady.cons rfl (fun K hK => ?_) AllReady.nil
            go_simp
            refine hK _ _ ?_
            clear hK K
            try simp only [Act.put, jj]
            refine tC 8 ?_
            try simp only [Act.put, jj]
            refine tC 9 ?_
            try simp only [Act.put, jj]
            refine tC 10 ?_
            try simp only [Act.put, jj]
            refine wpAny_ready (rs := [11]) (by kernel_rfl) (by simp) ?_
            refine AllReady.cons rfl (fun K hK => ?_) AllReady.nil
            go_simp
            refine hK _ _ ?_
            clear hK K
            try simp only [Act.put, jj]
            refine wpAny_done (by kernel_rfl) ?_ _
            simp only [z9]
            have hW : xr W (W.setCell ⟨w.heap.size, x.1.1 * 2 + 1, none⟩ (.int .i64 x.1.2.2.rc.seq)) w.heap.size (x.1.1 * 2) (Spn (q9 sp x.1.2.2.rc.seq, max sp.2 x.1.2.2.rc.seq)) := by
             rw [hlo.out, hmv.out]
             exact (z8 l1 (.int .i64 x.1.2.2.rc.seq)).less l0
            have hBL : Below w.heap.size W (W.setCell ⟨w.heap.size, x.1.1 * 2 + 1, none⟩ (.int .i64 x.1.2.2.rc.seq)).drew.drew := (((Below.refl w.heap.size W).setCell (p := ⟨w.heap.size, x.1.1 * 2 + 1, none⟩) nl (.int .i64 x.1.2.2.rc.seq)).drew).drew
            have hBX : Boxed (W.setCell ⟨w.heap.size, x.1.1 * 2 + 1, none⟩ (.int .i64 x.1.2.2.rc.seq)).drew.drew (w.heap.size + 1) 116 (.slice (some ⟨w.heap.size, 0, none⟩) 4 4) := (hW.block (w.heap.size + 1) (by omega)).trans bV1
            have hRW : Row (W.setCell ⟨w.heap.size, x.1.1 * 2 + 1, none⟩ (.int .i64 x.1.2.2.rc.seq)).drew.drew (some ⟨w.heap.size, 0, none⟩) (spv (spOf ((pre ++ [x]).map Subtype.val))) := (HROW.out _ hW).drew.drew
            clear hW HROW
            gi_wp2
            exact ⟨(((KeepsOthers.setCell _ _ _).trans (KeepsOthers.drew _)).trans (KeepsOthers.drew _)).from _, hBL, ⟨hBX, hRW⟩, hB1.trans hBL⟩
          . go_simp
            refine hK _ _ ?_
            clear hK K
            try simp only [Act.put, jj]
            refine wpAny_ready (rs := [4]) (by kernel_rfl) (by simp) ?_
            refine AllReady.cons rfl (fun K hK => ?_) AllReady.nil
            go_simp
            refine hK _ _ ?_
            clear hK K
            try simp only [Act.put, jj]
            refine tC 8 ?_
            try simp only [Act.put, jj]
            refine tC 9 ?_
            try simp only [Act.put, jj]
            refine tC 10 ?_
            try simp only [Act.put, jj]
            refine wpAny_ready (rs := [11]) (by kernel_rfl) (by simp) ?_
            refine AllReady.cons rfl (fun K hK => ?_) AllReady.nil
            go_simp
            refine hK _ _ ?_
            clear hK K
            try simp only [Act.put, jj]
            refine wpAny_done (by kernel_rfl) ?_ _
            simp only [z9]
            have hW : xr W (W.setCell ⟨w.heap.size, x.1.1 * 2 + 1, none⟩ (.int .i64 x.1.2.2.rc.seq)) w.heap.size (x.1.1 * 2) (Spn (q9 sp x.1.2.2.rc.seq, max sp.2 x.1.2.2.rc.seq)) := by
             rw [hlo.out, hmv.out]
             exact (z8 l1 (.int .i64 x.1.2.2.rc.seq)).less l0
            have hBL : Below w.heap.size W (W.setCell ⟨w.heap.size, x.1.1 * 2 + 1, none⟩ (.int .i64 x.1.2.2.rc.seq)).drew.drew := (((Below.refl w.heap.size W).setCell (p := ⟨w.heap.size, x.1.1 * 2 + 1, none⟩) nl (.int .i64 x.1.2.2.rc.seq)).drew).drew
            have hBX : Boxed (W.setCell ⟨w.heap.size, x.1.1 * 2 + 1, none⟩ (.int .i64 x.1.2.2.rc.seq)).drew.drew (w.heap.size + 1) 116 (.slice (some ⟨w.heap.size, 0, none⟩) 4 4) := (hW.block (w.heap.size + 1) (by omega)).trans bV1
            have hRW : Row (W.setCell ⟨w.heap.size, x.1.1 * 2 + 1, none⟩ (.int .i64 x.1.2.2.rc.seq)).drew.drew (some ⟨w.heap.size, 0, none⟩) (spv (spOf ((pre ++ [x]).map Subtype.val))) := (HROW.out _ hW).drew.drew
            clear hW HROW
            gi_wp2
            exact ⟨(((KeepsOthers.setCell _ _ _).trans (KeepsOthers.drew _)).trans (KeepsOthers.drew _)).from _, hBL, ⟨hBX, hRW⟩, hB1.trans hBL⟩
        . have hmv : Hid (max sp.2 x.1.2.2.rc.seq = sp.2) := by unfold Hid; omega
          refine jg (by kernel_rfl) (by kernel_rfl) ?_
          refine tC 0 ?_
          try simp only [Act.put, jj]
          refine tC 1 ?_
          try simp only [Act.put, jj]
          refine tC 2 ?_
          try simp only [Act.put, jj]
          refine tC 3 ?_
          try simp only [Act.put, jj]
          refine tC 5 ?_
          try simp only [Act.put, jj]
          refine tC 6 ?_
          try simp only [Act.put, jj]
          refine wpAny_ready (rs := [4, 7]) (by kernel_rfl) (by simp) ?_
          refine AllReady.cons rfl (fun K hK => ?_) (AllReady.cons rfl (fun K hK => ?_) AllReady.nil)
          . go_simp
            refine hK _ _ ?_
            clear hK K
            try simp only [Act.put, jj]
            refine wpAny_ready (rs := [7]) (by kernel_rfl) (by simp) ?_
            refine AllReady.cons rfl (fun K hK => ?_) AllReady.nil
            go_simp
            refine hK _ _ ?_
            clear hK K
            try simp only [Act.put, jj]
            refine tC 8 ?_
            try simp only [Act.put, jj]
            refine tC 9 ?_
            try simp only [Act.put, jj]
            refine tC 10 ?_
            try simp only [Act.put, jj]
            refine wpAny_ready (rs := [11]) (by kernel_rfl) (by simp) ?_
            refine AllReady.cons rfl (fun K hK => ?_) AllReady.nil
            go_simp
            refine hK _ _ ?_
            clear hK K
            try simp only [Act.put, jj]
            refine wpAny_done (by kernel_rfl) ?_ _
            simp only [z9]
            have hW : xr W (W.setCell ⟨w.heap.size, x.1.1 * 2 + 1, none⟩ (.int .i64 sp.2)) w.heap.size (x.1.1 * 2) (Spn (q9 sp x.1.2.2.rc.seq, max sp.2 x.1.2.2.rc.seq)) := by
             rw [hlo.out, hmv.out]
             exact (z8 l1 (.int .i64 sp.2)).less l0
            have hBL : Below w.heap.size W (W.setCell ⟨w.heap.size, x.1.1 * 2 + 1, none⟩ (.int .i64 sp.2)).drew.drew := (((Below.refl w.heap.size W).setCell (p := ⟨w.heap.size, x.1.1 * 2 + 1, none⟩) nl (.int .i64 sp.2)).drew).drew
            have hBX : Boxed (W.setCell ⟨w.heap.size, x.1.1 * 2 + 1, none⟩ (.int .i64 sp.2)).drew.drew (w.heap.size + 1) 116 (.slice (some ⟨w.heap.size, 0, none⟩) 4 4) := (hW.block (w.heap.size + 1) (by omega)).trans bV1
            have hRW : Row (W.setCell ⟨w.heap.size, x.1.1 * 2 + 1, none⟩ (.int .i64 sp.2)).drew.drew (some ⟨w.heap.size, 0, none⟩) (spv (spOf ((pre ++ [x]).map Subtype.val))) := (HROW.out _ hW).drew.drew
            clear hW HROW
            gi_wp2
            exact ⟨(((KeepsOthers.setCell _ _ _).trans (KeepsOthers.drew _)).trans (KeepsOthers.drew _)).from _, hBL, ⟨hBX, hRW⟩, hB1.trans hBL⟩
          . go_simp
            refine hK _ _ ?_
            clear hK K
            try simp only [Act.put, jj]
            refine wpAny_ready (rs := [4]) (by kernel_rfl) (by simp) ?_
            refine AllReady.cons rfl (fun K hK => ?_) AllReady.nil
            go_simp
            refine hK _ _ ?_
            clear hK K
            try simp only [Act.put, jj]
            refine tC 8 ?_
            try simp only [Act.put, jj]
            refine tC 9 ?_
            try simp only [Act.put, jj]
            refine tC 10 ?_
            try simp only [Act.put, jj]
            refine wpAny_ready (rs := [11]) (by kernel_rfl) (by simp) ?_
            refine AllReady.cons rfl (fun K hK => ?_) AllReady.nil
            go_simp
            refine hK _ _ ?_
            clear hK K
            try simp only [Act.put, jj]
            refine wpAny_done (by kernel_rfl) ?_ _
            simp only [z9]
            have hW : xr W (W.setCell ⟨w.heap.size, x.1.1 * 2 + 1, none⟩ (.int .i64 sp.2)) w.heap.size (x.1.1 * 2) (Spn (q9 sp x.1.2.2.rc.seq, max sp.2 x.1.2.2.rc.seq)) := by
             rw [hlo.out, hmv.out]
             exact (z8 l1 (.int .i64 sp.2)).less l0
            have hBL : Below w.heap.size W (W.setCell ⟨w.heap.size, x.1.1 * 2 + 1, none⟩ (.int .i64 sp.2)).drew.drew := (((Below.refl w.heap.size W).setCell (p := ⟨w.heap.size, x.1.1 * 2 + 1, none⟩) nl (.int .i64 sp.2)).drew).drew
            have hBX : Boxed (W.setCell ⟨w.heap.size, x.1.1 * 2 + 1, none⟩ (.int .i64 sp.2)).drew.drew (w.heap.size + 1) 116 (.slice (some ⟨w.heap.size, 0, none⟩) 4 4) := (hW.block (w.heap.size + 1) (by omega)).trans bV1
            have hRW : Row (W.setCell ⟨w.heap.size, x.1.1 * 2 + 1, none⟩ (.int .i64 sp.2)).drew.drew (some ⟨w.heap.size, 0, none⟩) (spv (spOf ((pre ++ [x]).map Subtype.val))) := (HROW.out _ hW).drew.drew
            clear hW HROW
            gi_wp2
            exact ⟨(((KeepsOthers.setCell _ _ _).trans (KeepsOthers.drew _)).trans (KeepsOthers.drew _)).from _, hBL, ⟨hBX, hRW⟩, hB1.trans hBL⟩
  . have h1' : (x.1.2.2.state != 1) = true := by simpa using h1
    gi_wp2
    exact ⟨KeepsFrom.refl _ _, Below.refl _ _, ⟨bV1, by rw [hst.out]; unfold Zb; rw [if_neg h1]; exact hR1⟩, hB1⟩
 case done =>
  rintro D ys W hD hys ⟨⟨bV1, hR1⟩, hB1⟩ hK
  have cV := bV1.cell
  gi_wp2
  refine ⟨by simp, .inl ⟨_, _, rfl, run_takeDeferred hK, ?_⟩⟩
  refine ⟨_, results_tmp rfl _ _ _, w.heap.size, rfl, Nat.le_refl _, ?_, hB1.trans (belowK_b (w := w) nl W D _ _ (by omega) hK rfl rfl)⟩
  rw [← hys]
  exact zgm _ _ w.heap.size () W _ (some D) hR1 (grownBy_putObj' W D _) (fun r e => by cases e; exact ⟨by omega, _, hK, rfl⟩)
 case stop =>
  rintro D c pre W _ _ h _
  exact h.elim
end
section
def x7 (a b : Span) : Bool := decide (0 < a.2) && (decide (0 < b.2) && (decide (b.1 ≤ a.2) && decide (a.1 ≤ b.2)))
def Xk (ss : List Span) : Nat -> Int -> List Span -> Option Int
 | _, n, [] => some n
 | i, n, a :: r => if (ss.take i).any (x7 a) = true then none else Xk ss (i + 1) (max n a.2) r
def j3 (ss : List Span) (n : Int) : Nat -> Nat -> List Bk -> Bool
 | _, c, [] => decide (c ≤ 1)
 | i, c, b :: r => if x5 b = true then (if 0 < (ss.getD i (0, 0)).2 ∧ (ss.getD i (0, 0)).2 < n then false else j3 ss n (i + 1) (c + 1) r) else j3 ss n (i + 1) c r
def ordI (ss : List Span) (f : List Bk) : Bool := match Xk ss 0 0 ss with
 | none => false
 | some n => j3 ss n 0 0 f
def xf (f : List Bk) : Bool := if zc f = true then ordI (spOf (zj 0 f)) f else false
end
section
open Go.RowKit Go.Maps
end
section
open Go.RowKit Go.Maps Go.Shelf
attribute [local go_sem] Oper.semAt_some
def rcV (r : Rc) : Value := .agg #[.int .i64 r.kind, .int .i64 r.seq, .int .i64 r.addr, .int .i64 r.val]
def recD (r : Rc) : DataW Unit := .agg [.lit (.int .i64 r.kind), .lit (.int .i64 r.seq), .lit (.int .i64 r.addr), .lit (.int .i64 r.val)]
def recL : List Value -> Option Rc
 | [.int .i64 a, .int .i64 b, .int .i64 c, .int .i64 d] => some ⟨a, b, c, d⟩
 | _ => none
def zc0 (v : Value) : Option (DataW Unit × List MemPlace) := match v with
 | .agg cs => (recL cs.toList).map fun r => (recD r, [])
 | _ => none
theorem Jt (r : Rc) : zc0 (rcV r) = some (recD r, []) := rfl
theorem zna {l : List Value} {r : Rc} (h : recL l = some r) : l = [.int .i64 r.kind, .int .i64 r.seq, .int .i64 r.addr, .int .i64 r.val] := by
 unfold recL at h
 split at h
 . cases h; rfl
 . cases h
theorem znb {r s : Rc} (h : recD r = recD s) : r = s := by
 unfold recD at h
 cases r; cases s
 simp only [DataW.agg.injEq, List.cons.injEq, DataW.lit.injEq, Lit.int.injEq, true_and, and_true] at h
 obtain ⟨rfl, rfl, rfl, rfl⟩ := h
 rfl
theorem Qw {v : Value} {r : Rc} {ps : List MemPlace} (h : zc0 v = some (recD r, ps)) : v = rcV r := by
 unfold zc0 at h
 cases v with
 | agg cs =>
   dsimp only at h
   cases hl : recL cs.toList with
   | none => rw [hl] at h; cases h
   | some s =>
     rw [hl] at h
     simp only [Option.map_some, Option.some.injEq, Prod.mk.injEq] at h
     have hr := znb h.1
     subst hr
     have := zna hl
     unfold rcV
     rw [← this]
 | _ => cases h
def RMap (P : Program) (K : TypeId) (w : World) (b n : Nat) (F : Int -> Option Rc) : Prop :=
 ∃ D : DataW Unit, w.ownsMap P K zc0 b n D ∧ IsMap D ∧ ∀ k, (Lit.int .i64 k).wf = true -> D.atKey (.int .i64 k) (recD rc0) = recD ((F k).getD rc0) ∧ has D (.int .i64 k) = (F k).isSome
section
variable {P : Program} {t K E : TypeId} {w w' : World} {b n : Nat} {F : Int -> Option Rc}
theorem RMap.made (P : Program) (K : TypeId) (w : World) : RMap P K (w.alloc (.map #[] 0)) w.heap.size 0 (fun _ => none) := ⟨_, World.ownsMap_made _ _ _ _, isMap_empty, fun k _ => ⟨rfl, rfl⟩⟩
theorem RMap.mono (h : RMap P K w b n F) {m : Nat} (hm : n ≤ m) : RMap P K w b m F := by
 obtain ⟨D, h1, h2⟩ := h; exact ⟨D, h1.mono hm, h2⟩
theorem RMap.lt (h : RMap P K w b n F) : b < w.heap.size := by obtain ⟨D, h1, _⟩ := h; exact h1.lt
theorem RMap.at_ (h : RMap P K w b n F) : ∃ es clock, w.heap[b]? = some (.map es clock) := by obtain ⟨D, ⟨es, clock, e, _⟩, _⟩ := h; exact ⟨es, clock, e⟩
theorem RMap.below {B : Nat} (h : RMap P K w b n F) (hb : Below B w w') (hB : b < B) : RMap P K w' b n F := by
 obtain ⟨D, ⟨es, clock, e, r⟩, h2⟩ := h
 exact ⟨D, ⟨es, clock, (hb.block b hB).trans e, r⟩, h2⟩
theorem RMap.kept {row : Option Nat} (h : RMap P K w b n F) (hg : w.grownBy w' row) (hne : some b ≠ row) : RMap P K w' b n F := by
 obtain ⟨D, h1, h2⟩ := h; exact ⟨D, h1.kept hg hne, h2⟩
theorem RMap.alloc (h : RMap P K w b n F) (o : Obj) : RMap P K (w.alloc o) b n F := by
 obtain ⟨D, h1, h2⟩ := h; exact ⟨D, h1.alloc o, h2⟩
theorem RMap.look (h : RMap P K w b n F) (ht : P.underlying t = some (.map K E)) (hK : P.underlying K = some (.int .i64)) (hz : ∀ w : World, (zeroValue E).run P w = .ok (rcV rc0) w) {k : Int} (hk : (Lit.int .i64 k).wf = true) :
 (Instr.lookup t (.map (some b)) (.int .i64 k) false).run P w = .ok (rcV ((F k).getD rc0)) w := by
 obtain ⟨D, h1, _, h3⟩ := h
 obtain ⟨v, ps, hrun, hv⟩ := h1.lookup (int_keyed hK) ht (hz w) (Jt rc0) (keyOf_int_mk hK hk)
 rw [(h3 k hk).1] at hv
 rw [hrun, Qw hv]
theorem RMap.look_ok (h : RMap P K w b n F) (ht : P.underlying t = some (.map K E)) (hK : P.underlying K = some (.int .i64)) (hz : ∀ w : World, (zeroValue E).run P w = .ok (rcV rc0) w) {k : Int} (hk : (Lit.int .i64 k).wf = true) :
 (Instr.lookup t (.map (some b)) (.int .i64 k) true).run P w = .ok (.tuple #[rcV ((F k).getD rc0), .bool (F k).isSome]) w := by
 obtain ⟨D, h1, _, h3⟩ := h
 obtain ⟨v, ps, hrun, hv⟩ := h1.look_ok (int_keyed hK) ht (hz w) (Jt rc0) (keyOf_int_mk hK hk)
 rw [(h3 k hk).1] at hv
 rw [(h3 k hk).2] at hrun
 rw [hrun, Qw hv]
theorem RMap.put (h : RMap P K w b n F) (ht : P.underlying t = some (.map K E)) (hK : P.underlying K = some (.int .i64)) (hn : n < maxLen) {k : Int} (r : Rc) (hk : (Lit.int .i64 k).wf = true) :
 ∃ w', (Instr.mapUpdate t (.map (some b)) (.int .i64 k) (rcV r)).run P w = .ok () w' ∧ RMap P K w' b (n + 1) (fun x => if x = k then some r else F x) ∧ w.grownBy w' (some b) := by
 obtain ⟨D, h1, h2, h3⟩ := h
 obtain ⟨w', hrun, g1, g2⟩ := h1.update (int_keyed hK) ht hn (keyOf_int_mk hK hk) (Jt r)
 refine ⟨w', hrun, ⟨_, g1, h2.put _ _, fun x hx => ?_⟩, g2⟩
 dsimp only
 by_cases e : x = k
 . subst e
   rw [if_pos rfl, atKey_put_same h2 (Xs _ hk), has_put_same h2 (Xs _ hk)]
   exact ⟨rfl, rfl⟩
 . have hne : Lit.int .i64 x ≠ Lit.int .i64 k := by intro e'; injection e' with _ e''; exact e e''
   rw [if_neg e, atKey_put_other hne, has_put_other hne]
   exact h3 x hx
end
def qa (F : Int -> Option Rc) (x : PgAt) : Int -> Option Rc :=
 if x.2.2.state = 1 ∧ ((F x.2.2.rc.addr).getD rc0).seq < x.2.2.rc.seq then fun a => if a = x.2.2.rc.addr then some x.2.2.rc else F a else F
def Kw (pre : List PgAt) : Int -> Option Rc := pre.foldl qa (fun _ => none)
theorem zez (pre : List PgAt) (x : PgAt) : Kw (pre ++ [x]) = qa (Kw pre) x := by unfold Kw; rw [List.foldl_append]; rfl
def Zf (r : Rc) : Option Rc := if 0 < r.seq then some r else none
theorem zal {r : Rc} (h : r = rc0 ∨ 0 < r.seq) : (Zf r).getD rc0 = r := by
 unfold Zf
 split
 . rfl
 . rcases h with rfl | h
   . rfl
   . contradiction
theorem zpc {F : Int -> Option Rc} {o : Int -> Rc} {x : PgAt} (hx : zp x.2.2 = true) (h : ∀ a, F a = Zf (o a)) (h0 : ∀ a, o a = rc0 ∨ 0 < (o a).seq) (a : Int) :
 qa F x a = Zf (zv a (o a) x.2.2) ∧ (zv a (o a) x.2.2 = rc0 ∨ 0 < (zv a (o a) x.2.2).seq) := by
 have hL0 : ∀ r : Rc, ¬ (x.2.2.state = 1 ∧ x.2.2.rc.addr = a ∧ r.seq < x.2.2.rc.seq) -> zv a r x.2.2 = r := fun r hr => by unfold zv; rw [if_neg hr]
 by_cases hc : x.2.2.state = 1 ∧ (o x.2.2.rc.addr).seq < x.2.2.rc.seq
 . have hs := (xw (xl hx hc.1)).2.2.2.2.1
   have hM : qa F x = fun a => if a = x.2.2.rc.addr then some x.2.2.rc else F a := by unfold qa; rw [h, zal (h0 _), if_pos hc]
   rw [hM]
   by_cases ha : a = x.2.2.rc.addr
   . have hL : zv a (o a) x.2.2 = x.2.2.rc := by rw [ha]; unfold zv; rw [if_pos ⟨hc.1, rfl, hc.2⟩]
     rw [hL]
     exact ⟨by dsimp only; rw [if_pos ha]; unfold Zf; rw [if_pos (by omega)], .inr (by omega)⟩
   . rw [hL0 _ (fun e => ha e.2.1.symm)]
     exact ⟨by dsimp only; rw [if_neg ha]; exact h a, h0 a⟩
 . have hM : qa F x = F := by unfold qa; rw [h, zal (h0 _), if_neg hc]
   rw [hM, hL0 _ (fun e => hc ⟨e.1, by rw [e.2.1]; exact e.2.2⟩)]
   exact ⟨h a, h0 a⟩
theorem zon : ∀ (ps : List Pg) (i j : Nat) (F : Int -> Option Rc) (o : Int -> Rc), (∀ p ∈ ps, zp p = true) -> (∀ a, F a = Zf (o a)) -> (∀ a, o a = rc0 ∨ 0 < (o a).seq) ->
 ∀ a, (km i j ps).foldl qa F a = Zf (xp a (o a) ps) ∧ (xp a (o a) ps = rc0 ∨ 0 < (xp a (o a) ps).seq)
 | [], _, _, F, o, _, h, h0, a => ⟨h a, h0 a⟩
 | p :: ps, i, j, F, o, hp, h, h0, a => by
   have hst := fun a => zpc (x := (i, j, p)) (hp p (List.mem_cons_self ..)) h h0 a
   rw [km, List.foldl_cons]
   exact zon ps i (j + 1) (qa F (i, j, p)) (fun a => zv a (o a) p) (fun q hq => hp q (List.mem_cons_of_mem _ hq)) (fun a => (hst a).1) (fun a => (hst a).2) a
theorem zoo : ∀ (f : List Bk) (i : Nat) (F : Int -> Option Rc) (o : Int -> Rc), (∀ b ∈ f, ∀ p ∈ b.pages, zp p = true) -> (∀ a, F a = Zf (o a)) -> (∀ a, o a = rc0 ∨ 0 < (o a).seq) ->
 ∀ a, (zj i f).foldl qa F a = Zf (f.foldl (fun o b => xp a o b.pages) (o a))
 | [], _, F, o, _, h, _, a => h a
 | b :: f, i, F, o, hp, h, h0, a => by
   have hst := fun a => zon b.pages i 0 F o (hp b (List.mem_cons_self ..)) h h0 a
   rw [zj, List.foldl_append]
   exact zoo f (i + 1) _ (fun a => xp a (o a) b.pages) (fun c hc => hp c (List.mem_cons_of_mem _ hc)) (fun a => (hst a).1) (fun a => (hst a).2) a
theorem zjn {f : List Bk} (h : zc f = true) (a : Int) : Kw (zj 0 f) a = Zf (last f a) :=
 zoo f 0 (fun _ => none) (fun _ => rc0) (fun b hb => (xb h hb).2.2.2) (fun _ => rfl) (fun _ => .inl rfl) a
theorem zkr (i : Nat) : ∀ (ps : List Pg) (j : Nat), (km i j ps).length = ps.length
 | [], _ => rfl
 | _ :: ps, j => by rw [km, List.length_cons, zkr i ps, List.length_cons]
theorem zmo : ∀ (f : List Bk) (i : Nat), (∀ b ∈ f, b.pages.length = 4) -> (zj i f).length = 4 * f.length
 | [], _, _ => rfl
 | b :: f, i, h => by
   rw [zj, List.length_append, zkr, zmo f (i + 1) (fun c hc => h c (List.mem_cons_of_mem _ hc)), h b (List.mem_cons_self ..), List.length_cons]
   omega
theorem zhn (w : World) : (zeroValue 64).run Tryz.prog w = .ok (rcV rc0) w := by kernel_rfl
theorem zl7 (a b c d : Int) (w : World) : (Instr.field 64 (.agg #[.int .i64 a, .int .i64 b, .int .i64 c, .int .i64 d]) 1).run Tryz.prog w = .ok (.int .i64 b) w := by kernel_rfl
theorem zof {k : Int} (h : -1000 ≤ k ∧ k ≤ 1000) : (Lit.int .i64 k).wf = true := by
 have h1 : IntKind.i64.min ≤ k := Int.le_trans (by decide) h.1
 have h2 : k ≤ IntKind.i64.max := Int.le_trans h.2 (by decide)
 simp only [Lit.wf, Bool.and_eq_true, decide_eq_true_iff]
 exact ⟨h1, h2⟩
abbrev PgOf (f : List Bk) := { x : PgAt // x ∈ zj 0 f }
theorem zat (F : Fence) (n : Nat) (hF : F.fn 73) (hro : F.round = none) (hn : 1 ≤ n) (Bs n₀ g o c : Nat) (f : List Bk) (hs : List (Option Addr × Nat)) (w : World) (hB : Bs < w.heap.size) (hn₀ : n₀ ≤ w.heap.size)
 (hBs : w.cell? ⟨Bs, 0, none⟩ = some (.slice (some ⟨g, o, none⟩) f.length c)) (hl : f.length < 1000000000000) (hp : ∀ b ∈ f, b.pages.length < 1000000000000)
 (hBk : Bks w (some ⟨g, o, none⟩) f hs) (hlow : ∀ b, fblk (some ⟨g, o, none⟩) hs b -> b < n₀) :
 SeqStopsK F n Tryz.prog 73 #[.pointer (some ⟨Bs, 0, none⟩)] (fun x : PgOf f => encP x.1) (Below n₀) (fun ys => ys.map Subtype.val = zj 0 f) (fun pre => pre.map Subtype.val <+: zj 0 f) (zj 0 f).length w := fun l J Jx W hW hJ _ hY h0 => by
 refine (X4 F n hF hro hn l Bs n₀ g o c f hs (fun pre V => ∃ pre' : List (PgOf f), pre'.map Subtype.val = pre ∧ J pre' V) (fun pre V => ∃ pre' : List (PgOf f), pre'.map Subtype.val = pre ∧ Jx pre' V) W (Nat.le_trans hn₀ hW.size)
  (fun s X Y row hs hg hr => by obtain ⟨p, e, h⟩ := hs; exact ⟨p, e, hJ p X Y row h hg hr⟩) (fun pre x W1 h1 h2 h3 => ?_) ((hW.cell (p := ⟨Bs, 0, none⟩) hB).trans hBs) hl hp (hBk.keep fun q hq hl => hW.block q (by omega)) hlow ⟨[], rfl, h0⟩).mono ?_
 . obtain ⟨pre', rfl, hj⟩ := h1
   refine (hY pre' ⟨x, h3.2⟩ W1 hj (by simpa using h2)).mono ?_
   rintro e V (⟨rfl, hj2, hk⟩ | ⟨rfl, hj2⟩)
   . exact .inl ⟨rfl, ⟨_, by simp, hj2⟩, hk⟩
   . exact .inr ⟨rfl, _, by simp, hj2⟩
 . rintro e V ⟨he, ⟨ys, rfl, pre', h1, h2⟩ | ⟨pre, h0, pre', rfl, h2⟩⟩
   . exact ⟨he, .inl ⟨pre', h1, h2⟩⟩
   . exact ⟨he, .inr ⟨pre', h0, h2⟩⟩
theorem zo8 {f : List Bk} (h : zc f = true) (x : PgOf f) : zp x.1.2.2 = true := by
 obtain ⟨b, hb, hx⟩ := zgx x.2
 exact (xb h hb).2.2.2 _ hx
def lmOf {f : List Bk} (pre : List (PgOf f)) : Int -> Option Rc := Kw (pre.map Subtype.val)
theorem zlf {f : List Bk} (pre : List (PgOf f)) (x : PgOf f) : lmOf (pre ++ [x]) = qa (lmOf pre) x.1 := by unfold lmOf; rw [List.map_append]; exact zez _ _
theorem zkw {P : Program} {K : TypeId} {f : List Bk} (b n₀ : Nat) (hb : b < n₀) : OwnFrom n₀ (fun (pre : List (PgOf f)) W => RMap P K W b pre.length (lmOf pre)) := fun _ _ _ _ hs hg hr =>
 hs.kept hg (fun e => by have := (hr _ e.symm).1; omega)
theorem Y2 (f : List Bk) (A : Option Addr) (n c : Nat) (w : World) (hn : n = f.length) (hok : zc f = true) (hF : Fl w A f) :
 Calls Tryz.prog 32 #[.slice A n c] w fun e w' => e = .returned (.map (some w.heap.size)) ∧ RMap Tryz.prog 3 w' w.heap.size 16 (Kw (zj 0 f)) ∧ Below w.heap.size w w' := by
 subst hn
 refine (callsIn_wide (n := 6)).1 ?_
 refine callsIn_of_wp_marks Tryz.func32 rfl trivial ?_ rfl
 simp only [Tryz.ntmps32, List.size_toArray, List.length_cons, List.length_nil, Nat.reduceAdd, Nat.reduceSub, Array.replicate_succ, Array.replicate_zero, List.push_toArray, List.append_toArray, List.nil_append, List.cons_append]
 have hmm := @run_makeMap Tryz.prog
 have hfd := zl7
 have hfl := zf hok
 have HFL := Lib.hid hfl
 have HOK := Lib.hid hok
 have HP := Lib.hid (show ∀ b ∈ f, b.pages.length < 1000000000000 from fun b hb => by rw [(zm hok b hb).1]; omega)
 have HPL := Lib.hid (fun b hb => (zm hok b hb).1)
 have HAL := Lib.hid (zmo f 0 HPL.out)
 obtain ⟨hs, hBk⟩ := hF
 obtain ⟨g, o, rfl⟩ := hBk.addr (by intro e; have := HFL.out; rw [e] at this; simp at this)
 clear hfl hok
 gi_wp2_with (refine ⟨trivial, ?_⟩; gi_at_call 39; refine (Xd Fence.wide _ trivial rfl _ _ _ _).mono ?_; rintro e w2 ⟨rfl, rfl⟩)
 have hlow : ∀ b, fblk (some ⟨g, o, none⟩) hs b -> b < w.heap.size := fun b hb => by
  have h4 := HFL.out
  rcases hb with hb | ⟨i, x, hx, hb⟩
  . rw [zg] at hb
    subst hb
    obtain ⟨B, hB⟩ := zd (l := f) (k := 0) (by omega)
    obtain ⟨_, _, c0, _⟩ := hBk.at_ hB
    exact ze c0
  . obtain ⟨B, hB⟩ := zd (l := f) (k := i) (by rw [← hBk.len]; exact (List.getElem?_eq_some_iff.1 hx).1)
    have hr := (hBk.pg i B x hB hx).1
    have hn : B.pages ≠ [] := by intro hn; have := HPL.out B (List.mem_of_getElem? hB); rw [hn] at this; simp at this
    obtain ⟨b', o', he, hc⟩ := hr (kq hn)
    rw [he, zg] at hb
    subst hb
    obtain ⟨q, hq⟩ := zd (l := pgs B.pages) (k := 0) (by rw [yz]; have := List.length_pos_iff.2 hn; omega)
    exact ze (hc 0 q hq).1
 have hm0 := ((RMap.made Tryz.prog 3 w).alloc (.cells #[.map (some w.heap.size)] 59)).alloc (.cells #[.slice (some ⟨g, o, none⟩) f.length c] 25)
 have bS := (Boxed.new (w.alloc (.map #[] 0)) 59 (.map (some w.heap.size))).alloc (.cells #[.slice (some ⟨g, o, none⟩) f.length c] 25)
 have bA := Boxed.new ((w.alloc (.map #[] 0)).alloc (.cells #[.map (some w.heap.size)] 59)) 25 (.slice (some ⟨g, o, none⟩) f.length c)
 simp only [World.size_alloc] at bS bA
 have hB0 : Below w.heap.size w (((w.alloc (.map #[] 0)).alloc (.cells #[.map (some w.heap.size)] 59)).alloc (.cells #[.slice (some ⟨g, o, none⟩) f.length c] 25)) := (((Below.refl _ w).alloc nl _).alloc (by simp) _).alloc (by simp; omega) _
 have hsz : (((w.alloc (.map #[] 0)).alloc (.cells #[.map (some w.heap.size)] 59)).alloc (.cells #[.slice (some ⟨g, o, none⟩) f.length c] 25)).heap.size = w.heap.size + 3 := by simp
 have hBk2 := ((hBk.alloc (.map #[] 0)).alloc (.cells #[.map (some w.heap.size)] 59)).alloc (.cells #[.slice (some ⟨g, o, none⟩) f.length c] 25)
 obtain ⟨W0, hW0⟩ : ∃ W0, ((w.alloc (.map #[] 0)).alloc (.cells #[.map (some w.heap.size)] 59)).alloc (.cells #[.slice (some ⟨g, o, none⟩) f.length c] 25) = W0 := ⟨_, rfl⟩
 rw [hW0] at bS bA hB0 hsz hBk2 hm0 ⊢
 have hl4 : f.length < 1000000000000 := by rw [HFL.out]; omega
 clear hW0 hBk
 refine wpIn_rangeFunc_ownH rfl (by omega) (gf := 73) (lb := #[.pointer (some ⟨w.heap.size + 1 + 1, 0, none⟩)]) rfl trivial (enters_of Tryz.func73 (by kernel_rfl) rfl)
  (zat Fence.wide _ trivial rfl (by omega) (w.heap.size + 1 + 1) w.heap.size g o c f hs W0 (by omega) (by omega) bA.cell hl4 HP.out hBk2 hlow) belowK_t (belowK_b (by omega)) (Below.refl _ _) (fun _ => rfl)
  (fun pre W => (Boxed W (w.heap.size + 1) 59 (.map (some w.heap.size)) ∧ RMap Tryz.prog 3 W w.heap.size pre.length (lmOf pre)) ∧ Below w.heap.size w W)
  (fun _ _ _ => False)
  (OwnFrom.and (OwnFrom.and (Own.from (boxed_own _ _ (fun _ => _)) _) (zkw _ _ (by omega))) (ownFrom_below nl (by omega)))
  (fun _ _ _ _ _ hs _ _ => hs)
  ⟨⟨bS, hm0⟩, hB0⟩
  (fun x a' W => ∃ Bx, w.heap.size + 1 < Bx ∧ Laid W Bx 76 (pgv x.1.2.2) ∧ a' = { tmps := #[.slice (some ⟨g, o, none⟩) f.length c, undef, .map none, .pointer (some ⟨w.heap.size + 1, 0, none⟩), undef, .pointer (some ⟨Bx, 0, none⟩), .map (some w.heap.size), .slice (some ⟨g, o, none⟩) f.length c, .func (.func 73) #[] #[.pointer (some ⟨w.heap.size + 1 + 1, 0, none⟩)], .agg #[.int .i64 (x.1.1 : Int), .int .i64 (x.1.2.1 : Int)], .agg (pgv x.1.2.2), undef, undef, undef, undef, undef, undef, undef, undef, undef, undef, undef, undef, undef, undef, undef, undef, undef, undef, undef, undef, undef, undef], defers := [] })
  (fun x a' _ X Y row hs hg hr => by obtain ⟨Bx, h1, h2, h3⟩ := hs; exact ⟨Bx, h1, Ji Bx _ _ _ () X Y row h2 hg hr, h3⟩)
  ?assign ?body ?done ?stop
 case assign =>
  rintro l pre x W K ⟨⟨bS1, hR1⟩, hB1⟩ hK
  dsimp only [encP]
  gi_wp2
  exact hK _ _ ((KeepsOthers.alloc _ _).from _) ((Below.refl _ W).alloc hB1.size _) ⟨⟨bS1.alloc _, hR1.alloc _⟩, hB1.alloc hB1.size _⟩ ⟨W.heap.size, bS1.lt, World.alloc_heap_new W _, rfl⟩
 case body =>
  rintro l pre x a' W hl ⟨r, hr⟩ ⟨⟨bS1, hR1⟩, hB1⟩ ⟨Bx, hBx, bX, rfl⟩ hlt
  have hpk := zo8 HOK.out x
  have cS := bS1.cell
  have x0 : W.cell? ⟨Bx, 0, none⟩ = some (.int .i64 x.1.2.2.state) := bX.cell 0 rfl
  have x1 : W.cell? ⟨Bx, 1, none⟩ = some (.int .i64 x.1.2.2.rc.kind) := bX.cell 1 rfl
  have x2 : W.cell? ⟨Bx, 2, none⟩ = some (.int .i64 x.1.2.2.rc.seq) := bX.cell 2 rfl
  have x3 : W.cell? ⟨Bx, 3, none⟩ = some (.int .i64 x.1.2.2.rc.addr) := bX.cell 3 rfl
  have x4 : W.cell? ⟨Bx, 4, none⟩ = some (.int .i64 x.1.2.2.rc.val) := bX.cell 4 rfl
  have hst : Hid (lmOf (pre ++ [x]) = qa (lmOf pre) x.1) := zlf pre x
  have hll : (pre ++ [x]).length = pre.length + 1 := by simp
  by_cases h1 : x.1.2.2.state = 1
  . have hra := xw (xl hpk h1)
    have hwf := zof (k := x.1.2.2.rc.addr) (by omega)
    have hlk := hR1.look (t := 59) Tryz.underlying59 Tryz.underlying3 zhn hwf
    have hmax : pre.length < maxLen := by have := HAL.out; have := HFL.out; unfold maxLen; omega
    obtain ⟨w1, hrun, hR2, hg⟩ := hR1.put (t := 59) Tryz.underlying59 Tryz.underlying3 hmax x.1.2.2.rc hwf
    have HSM := Lib.hid (show qa (lmOf pre) x.1 = if (((lmOf pre) x.1.2.2.rc.addr).getD rc0).seq < x.1.2.2.rc.seq then (fun a => if a = x.1.2.2.rc.addr then some x.1.2.2.rc else lmOf pre a) else lmOf pre from by
     unfold qa
     by_cases hc : (((lmOf pre) x.1.2.2.rc.addr).getD rc0).seq < x.1.2.2.rc.seq
     . rw [if_pos ⟨h1, hc⟩, if_pos hc]
     . rw [if_neg (fun e => hc e.2), if_neg hc])
    unfold rcV at hlk hrun
    obtain ⟨es, ck, hmap⟩ := hR1.at_
    generalize ((lmOf pre) x.1.2.2.rc.addr).getD rc0 = q at *
    rw [h1] at x0
    clear h1 hra hwf hmax hpk
    by_cases hc : q.seq < x.1.2.2.rc.seq
    . have hH := HSM.out
      rw [if_pos hc] at hH
      replace HSM := Lib.hid hH
      have H2 := Lib.hid hR2
      have HM := Lib.hid hmap
      clear hH hmap hR2
      gi_wp2
      exact ⟨KeepsFrom.of_grownBy hg (fun j e => by cases e; omega), (Below.refl _ W).grown hg hB1.size (fun k e => by cases e; exact Nat.le_refl _),
       ⟨bS1.kept hg (fun e => by injection e with e; omega), by rw [hst.out, HSM.out, hll]; exact H2.out⟩, hB1.grown hg hB1.size (fun k e => by cases e; exact Nat.le_refl _)⟩
    . have hH := HSM.out
      rw [if_neg hc] at hH
      replace HSM := Lib.hid hH
      clear hH hmap hR2 hg hrun
      gi_wp2
      exact ⟨KeepsFrom.refl _ _, Below.refl _ _, ⟨bS1, by rw [hst.out, HSM.out]; exact hR1.mono (by omega)⟩, hB1⟩
  . have hH : qa (lmOf pre) x.1 = lmOf pre := by unfold qa; rw [if_neg (fun e => h1 e.1)]
    have HSM := Lib.hid hH
    have h1' : (x.1.2.2.state == 1) = false := by simpa using h1
    clear hH h1 hpk
    gi_wp2
    exact ⟨KeepsFrom.refl _ _, Below.refl _ _, ⟨bS1, by rw [hst.out, HSM.out]; exact hR1.mono (by omega)⟩, hB1⟩
 case done =>
  rintro D ys W hD hys ⟨⟨bS1, hR1⟩, hB1⟩ hK
  have cS := bS1.cell
  gi_wp2
  refine ⟨by simp, .inl ⟨_, _, rfl, run_takeDeferred hK, ?_⟩⟩
  have hyl : ys.length ≤ 16 := by have h1 := HAL.out; have h2 := HFL.out; rw [← hys, List.length_map] at h1; omega
  have hRf : RMap Tryz.prog 3 W w.heap.size 16 (Kw (zj 0 f)) := by rw [← hys]; exact hR1.mono hyl
  exact ⟨_, results_tmp rfl _ _ _, rfl, hRf.kept (grownBy_putObj' _ D _) (fun e => by cases e; omega), hB1.trans (belowK_b (w := w) nl W D _ _ (by omega) hK rfl rfl)⟩
 case stop =>
  rintro D c pre W _ _ h _
  exact h.elim
end
section
open Go.RowKit Go.Maps
def hiGo (ss : List Span) : Nat -> Nat -> List Span -> Nat
 | _, old, [] => old
 | i, old, s :: r => if s.2 < (ss.getD old (0, 0)).2 then hiGo ss (i + 1) i r else hiGo ss (i + 1) old r
def Xa (f : List Bk) : Int := if zc f = true then (hiGo (spOf (zj 0 f)) 0 0 (spOf (zj 0 f)) : Nat) else -1
theorem ze4 (f : List Bk) (A : Option Addr) (n c : Nat) (w : World) (hn : n = f.length) (hF : Fl w A f) :
 Calls Tryz.prog 64 #[.slice A n c] w fun e w' => e = .returned (.int .i64 (Xa f)) ∧ Below w.heap.size w w' := by
 subst hn
 go_enter Tryz.func64, Tryz.ntmps64
 go_wp2_with fail
 refine (xe f A c _ hF).mono ?_
 rintro e w1 ⟨rfl, hb1⟩
 by_cases hok : zc f = true
 . have HSH := Lib.hid (fun b hb => (zm hok b hb).1)
   have HL := Lib.hid (zf hok)
   have hfin : Hid (Xa f = (hiGo (spOf (zj 0 f)) 0 0 (spOf (zj 0 f)) : Nat)) := by unfold Hid Xa; rw [if_pos hok]
   have hln := zcv (zj 0 f)
   rw [hok]
   clear hok
   obtain ⟨hs, hBk⟩ := hF
   obtain ⟨g, o, rfl⟩ := hBk.addr (by intro e; have := HL.out; rw [e] at this; simp at this)
   have hlow : ∀ b, fblk (some ⟨g, o, none⟩) hs b -> b < w1.heap.size := fun b hb => by
    have h4 := HL.out
    have hs1 := hb1.size
    rcases hb with hb | ⟨i, x, hx, hb⟩
    . rw [zg] at hb
      subst hb
      obtain ⟨B, hB⟩ := zd (l := f) (k := 0) (by omega)
      obtain ⟨_, _, c0, _⟩ := hBk.at_ hB
      have := ze c0
      omega
    . obtain ⟨B, hB⟩ := zd (l := f) (k := i) (by rw [← hBk.len]; exact (List.getElem?_eq_some_iff.1 hx).1)
      have hr := (hBk.pg i B x hB hx).1
      have hB4 := HSH.out B (List.mem_of_getElem? hB)
      obtain ⟨b', o', he, hc⟩ := hr (kq (by intro e; rw [e] at hB4; simp at hB4))
      rw [he, zg] at hb
      subst hb
      obtain ⟨q, hq⟩ := zd (l := pgs B.pages) (k := 0) (by rw [yz]; omega)
      have := ze (hc 0 q hq).1
      omega
   have hcall := Yo f hs g o c _ HL.out HSH.out (hBk.below hb1 nl) hlow
   rw [← HL.out] at hcall
   go_wp2_with fail
   refine hcall.mono ?_
   clear hcall
   rw [HL.out]
   rintro e w2 ⟨sb, rfl, hsb, hR, hb2⟩
   generalize spOf (zj 0 f) = ss at *
   have HLN := Lib.hid hln
   have hB2 := hb1.trans (hb2.mono hb1.size)
   clear hln hb2 hlow hBk
   go_wp2
   go_loopw [3, 14] (fun q i wr => ∃ k m : Nat, k ≤ 4 ∧ m < 4 ∧ i = .int .i64 k ∧ q = .int .i64 m ∧ Below w2.heap.size w2 wr ∧ Hid (hiGo ss 0 0 ss = hiGo ss k m (ss.drop k))) (fun _ i _ => 4 - (intOf i).toNat)
   case atStart => exact ⟨0, 0, by omega, by omega, rfl, rfl, Below.refl _ _, rfl⟩
   case round =>
    obtain ⟨k, m, hk, hm, rfl, rfl, hB, hT⟩ := hrel
    have hRk := hR.below hB nl
    by_cases hlt : k < 4
    . obtain ⟨s, hsk⟩ := zd (l := ss) (k := k) (by rw [HLN.out]; exact hlt)
      obtain ⟨sm, hsm⟩ := zd (l := ss) (k := m) (by rw [HLN.out]; exact hm)
      obtain ⟨a0, a1, _, _⟩ := hRk.span hsk
      obtain ⟨_, m1, _, _⟩ := hRk.span hsm
      have hgm : ss.getD m (0, 0) = sm := by rw [List.getD_eq_getElem?_getD, hsm]; rfl
      have hT2 : Hid (hiGo ss 0 0 ss = if s.2 < sm.2 then hiGo ss (k + 1) k (ss.drop (k + 1)) else hiGo ss (k + 1) m (ss.drop (k + 1))) := by rw [Hid, hT.out, zu hsk, hiGo, hgm]
      have hk1 : (k : Int) < 4 := by omega
      have hm1 : (m : Int) < 4 := by omega
      have hBa := fun (o : Obj) => hB.alloc hB.size o
      have lb := ze m1
      have y1 : (wr.alloc (.cells #[.int .i64 s.1, .int .i64 s.2] 119)).cell? ⟨sb, m * 2 + 1, none⟩ = some (.int .i64 sm.2) := (((Below.refl wr.heap.size wr).alloc nl _).cell (p := ⟨sb, m * 2 + 1, none⟩) lb).trans m1
      clear hsk hsm hgm hT hRk
      by_cases hh : s.2 < sm.2
      . have h3 : Hid (hiGo ss 0 0 ss = hiGo ss (k + 1) k (ss.drop (k + 1))) := by rw [Hid, hT2.out, if_pos hh]
        go_wp2
        go_quiet (fail)
        have hBq : Below w2.heap.size w2 ((wr.alloc (.cells #[.int .i64 s.1, .int .i64 s.2] 119)).drewN nq) := (hBa _).trans ⟨rfl, rfl, rfl, Nat.le_refl _, fun _ _ => rfl⟩
        go_wp2
        go_roundw
        (case rel => exact ⟨k + 1, k, by omega, by omega, by go_num, rfl, hBq, h3⟩)
        (case measure => simp [intOf]; omega)
      . have h3 : Hid (hiGo ss 0 0 ss = hiGo ss (k + 1) m (ss.drop (k + 1))) := by rw [Hid, hT2.out, if_neg hh]
        go_wp2
        go_quiet (fail)
        have hBq : Below w2.heap.size w2 ((wr.alloc (.cells #[.int .i64 s.1, .int .i64 s.2] 119)).drewN nq) := (hBa _).trans ⟨rfl, rfl, rfl, Nat.le_refl _, fun _ _ => rfl⟩
        go_wp2
        go_roundw
        (case rel => exact ⟨k + 1, m, by omega, by omega, by go_num, rfl, hBq, h3⟩)
        (case measure => simp [intOf]; omega)
    . obtain rfl : k = 4 := by omega
      have h3 : Hid (hiGo ss 0 0 ss = m) := by rw [Hid, hT.out, List.drop_of_length_le (by rw [HLN.out]; omega)]; rfl
      go_wp2
      go_ret
      exact ⟨qp (by rw [hfin.out, h3.out]), hB2.trans (hB.mono hB2.size)⟩
 . have hok' : zc f = false := by simpa using hok
   have hfin : Hid (Xa f = -1) := by unfold Hid Xa; rw [if_neg hok]
   rw [hok']
   go_wp2
   go_ret
   exact ⟨qp (by rw [hfin.out]), hb1⟩
end
section
open Go.RowKit Go.Maps
theorem zbd (f : List Bk) (A : Option Addr) (n c : Nat) (w : World) (hn : n = f.length) (hF : Fl w A f) :
 Calls Tryz.prog 31 #[.slice A n c] w fun e w' => e = .returned (.bool (xf f)) ∧ Below w.heap.size w w' := by
 subst hn
 go_enter Tryz.func31, Tryz.ntmps31
 go_wp2_with fail
 refine (xe f A c _ hF).mono ?_
 rintro e w1 ⟨rfl, hb1⟩
 by_cases hok : zc f = true
 . have HSH := Lib.hid (fun b hb => (zm hok b hb).1)
   have HL := Lib.hid (zf hok)
   have hfin : Hid (xf f = ordI (spOf (zj 0 f)) f) := by unfold Hid xf; rw [if_pos hok]
   have hln := zcv (zj 0 f)
   rw [hok]
   clear hok
   obtain ⟨hs, hBk⟩ := hF
   obtain ⟨g, o, rfl⟩ := hBk.addr (by intro e; have := HL.out; rw [e] at this; simp at this)
   have hlow : ∀ b, fblk (some ⟨g, o, none⟩) hs b -> b < w1.heap.size := fun b hb => by
    have h4 := HL.out
    have hs1 := hb1.size
    rcases hb with hb | ⟨i, x, hx, hb⟩
    . rw [zg] at hb
      subst hb
      obtain ⟨B, hB⟩ := zd (l := f) (k := 0) (by omega)
      obtain ⟨_, _, c0, _⟩ := hBk.at_ hB
      have := ze c0
      omega
    . obtain ⟨B, hB⟩ := zd (l := f) (k := i) (by rw [← hBk.len]; exact (List.getElem?_eq_some_iff.1 hx).1)
      have hr := (hBk.pg i B x hB hx).1
      have hB4 := HSH.out B (List.mem_of_getElem? hB)
      obtain ⟨b', o', he, hc⟩ := hr (kq (by intro e; rw [e] at hB4; simp at hB4))
      rw [he, zg] at hb
      subst hb
      obtain ⟨q, hq⟩ := zd (l := pgs B.pages) (k := 0) (by rw [yz]; omega)
      have := ze (hc 0 q hq).1
      omega
   have hcall := Yo f hs g o c _ HL.out HSH.out (hBk.below hb1 nl) hlow
   rw [← HL.out] at hcall
   go_wp2_with fail
   refine hcall.mono ?_
   clear hcall
   rw [HL.out]
   rintro e w2 ⟨sb, rfl, hsb, hR, hb2⟩
   generalize spOf (zj 0 f) = ss at *
   have HLN := Lib.hid hln
   have hB2 := hb1.trans (hb2.mono hb1.size)
   have hBk2 := hBk.below hB2 nl
   have hs2 := hb2.size
   clear hln hb2 hlow hBk
   go_wp2
   go_loopw [4, 19] (fun q i wr => ∃ (k : Nat) (m : Int), k ≤ 4 ∧ i = .int .i64 k ∧ q = .int .i64 m ∧ Below w2.heap.size w2 wr ∧ Hid (Xk ss 0 0 ss = Xk ss k m (ss.drop k))) (fun _ i _ => 4 - (intOf i).toNat)
   case atStart => exact ⟨0, 0, by omega, rfl, rfl, Below.refl _ _, rfl⟩
   case round =>
    obtain ⟨k, m, hk, rfl, rfl, hB, hT⟩ := hrel
    by_cases hlt : k < 4
    . obtain ⟨s, hsk⟩ := zd (l := ss) (k := k) (by rw [HLN.out]; exact hlt)
      have hRk := hR.below hB nl
      obtain ⟨a0, a1, _, _⟩ := hRk.span hsk
      have hT2 : Hid (Xk ss 0 0 ss = if (ss.take k).any (x7 s) = true then none else Xk ss (k + 1) (max m s.2) (ss.drop (k + 1))) := by rw [Hid, hT.out, zu hsk, Xk]
      obtain ⟨wo, rfl⟩ : ∃ wo : World, wo = wr := ⟨_, rfl⟩
      have hk1 : (k : Int) < 4 := by omega
      have hk4 : (k : Int) ≤ 4 := by omega
      have hBa : Below w2.heap.size w2 (wo.alloc (.cells #[.int .i64 s.1, .int .i64 s.2] 119)) := hB.alloc hB.size _
      have hsz : (wo.alloc (.cells #[.int .i64 s.1, .int .i64 s.2] 119)).heap.size = wo.heap.size + 1 := by simp
      have p0 : (wo.alloc (.cells #[.int .i64 s.1, .int .i64 s.2] 119)).cell? ⟨wo.heap.size, 0, none⟩ = some (.int .i64 s.1) := by simp [go_sem]
      have p1 : (wo.alloc (.cells #[.int .i64 s.1, .int .i64 s.2] 119)).cell? ⟨wo.heap.size, 1, none⟩ = some (.int .i64 s.2) := by simp [go_sem]
      clear hsk hT hRk
      rcases Int.lt_or_le m s.2 with hmx | hmx
      case' inl => have hT3 : Hid (Xk ss 0 0 ss = if (ss.take k).any (x7 s) = true then none else Xk ss (k + 1) s.2 (ss.drop (k + 1))) := by rw [Hid, hT2.out, Int.max_eq_right (by omega)]
      case' inr => have hT3 : Hid (Xk ss 0 0 ss = if (ss.take k).any (x7 s) = true then none else Xk ss (k + 1) m (ss.drop (k + 1))) := by rw [Hid, hT2.out, Int.max_eq_left (by omega)]
      all_goals
       clear hT2
       go_wp2
       go_loopw [32] (fun i wl => ∃ j : Nat, j ≤ k ∧ i = .int .i64 j ∧ Below w2.heap.size w2 wl ∧ wo.heap.size < wl.heap.size ∧ wl.cell? ⟨wo.heap.size, 0, none⟩ = some (.int .i64 s.1) ∧ wl.cell? ⟨wo.heap.size, 1, none⟩ = some (.int .i64 s.2) ∧ Hid (∀ t ∈ ss.take j, x7 s t = false)) (fun i _ => k - (intOf i).toNat)
       case atStart => exact ⟨0, by omega, rfl, hBa, by omega, p0, p1, by rw [Hid]; simp⟩
       case round =>
        obtain ⟨j, hj, rfl, hBl, hlt2, q0, q1, hU⟩ := hrel
        by_cases hjk : j < k
        . obtain ⟨t, htj⟩ := zd (l := ss) (k := j) (by rw [HLN.out]; omega)
          obtain ⟨b0, b1, _, _⟩ := (hR.below hBl nl).span htj
          have hjk1 : (j : Int) < k := by omega
          have hBb := hBl.alloc hBl.size (.cells #[.int .i64 t.1, .int .i64 t.2] 119)
          have r0 : (wr.alloc (.cells #[.int .i64 t.1, .int .i64 t.2] 119)).cell? ⟨wo.heap.size, 0, none⟩ = some (.int .i64 s.1) := (((Below.refl wr.heap.size wr).alloc nl _).cell (p := ⟨wo.heap.size, 0, none⟩) hlt2).trans q0
          have r1 : (wr.alloc (.cells #[.int .i64 t.1, .int .i64 t.2] 119)).cell? ⟨wo.heap.size, 1, none⟩ = some (.int .i64 s.2) := (((Below.refl wr.heap.size wr).alloc nl _).cell (p := ⟨wo.heap.size, 1, none⟩) hlt2).trans q1
          have hgt : wo.heap.size < (wr.alloc (.cells #[.int .i64 t.1, .int .i64 t.2] 119)).heap.size := by simp; omega
          have hcl : x7 s t = false -> Hid (∀ t ∈ ss.take (j + 1), x7 s t = false) := fun hc t' ht' => by
           rw [List.take_add_one, htj] at ht'
           rcases List.mem_append.1 ht' with h | h
           . exact hU.out t' h
           . simp at h; rw [h]; exact hc
          have HCL := Lib.hid hcl
          have hhit : x7 s t = true -> Hid (Xk ss 0 0 ss = none) := fun hc => by
           rw [Hid, hT3.out, if_pos]
           rw [List.any_eq_true]
           exact ⟨t, List.mem_iff_getElem?.2 ⟨j, by rw [List.getElem?_take, if_pos hjk]; exact htj⟩, hc⟩
          have HHIT := Lib.hid hhit
          clear hcl hhit htj hU p0 p1 q0 q1 hmx
          by_cases h1 : 0 < s.2
          . by_cases h2 : 0 < t.2
            . by_cases h3 : t.1 ≤ s.2
              . by_cases h4 : s.1 ≤ t.2
                . have hx := HHIT.out (by simp [x7, h1, h2, h3, h4])
                  go_wp2
                  go_ret
                  exact ⟨zk (by rw [hfin.out]; unfold ordI; rw [hx.out]), hB2.trans (hBb.mono hB2.size)⟩
                . have hx := HCL.out (by simp [x7, h4])
                  go_wp2
                  go_roundw
                  (case rel => exact ⟨j + 1, by omega, by go_num, hBb, hgt, r0, r1, hx⟩)
                  (case measure => simp [intOf]; omega)
              . have hx := HCL.out (by simp [x7, h3])
                go_wp2
                go_roundw
                (case rel => exact ⟨j + 1, by omega, by go_num, hBb, hgt, r0, r1, hx⟩)
                (case measure => simp [intOf]; omega)
            . have hx := HCL.out (by simp [x7, h2])
              go_wp2
              go_roundw
              (case rel => exact ⟨j + 1, by omega, by go_num, hBb, hgt, r0, r1, hx⟩)
              (case measure => simp [intOf]; omega)
          . have hx := HCL.out (by simp [x7, h1])
            go_wp2
            go_roundw
            (case rel => exact ⟨j + 1, by omega, by go_num, hBb, hgt, r0, r1, hx⟩)
            (case measure => simp [intOf]; omega)
        . obtain rfl : j = k := by omega
          have hx : (ss.take j).any (x7 s) = false := by
           rw [List.any_eq_false]
           exact fun t ht => by rw [hU.out t ht]; simp
          have hT4 := hT3.out
          rw [if_neg (by rw [hx]; simp)] at hT4
          replace hT4 := Lib.hid hT4
          clear hx hT3
          go_wp2
          go_roundw
          (case rel => exact ⟨j + 1, _, by omega, by go_num, rfl, hBl, hT4⟩)
          (case measure => simp [intOf]; omega)
    . have hk4 : (4 : Int) ≤ (k : Int) := by omega
      have h3 : Hid (Xk ss 0 0 ss = some m) := by rw [Hid, hT.out, List.drop_of_length_le (by rw [HLN.out]; omega)]; rfl
      have hfin2 : Hid (xf f = j3 ss m 0 0 f) := by rw [Hid, hfin.out, ordI, h3.out]
      clear hT h3
      have hf4 := HL.out
      have hBz := hB
      obtain ⟨wo, rfl⟩ : ∃ wo : World, wo = wr := ⟨_, rfl⟩
      go_wp2
      go_loopw [9, 62] (fun q i wl => ∃ k c : Nat, k ≤ 4 ∧ c ≤ k ∧ i = .int .i64 k ∧ q = .int .i64 c ∧ Below w2.heap.size w2 wl ∧ Hid (j3 ss m 0 0 f = j3 ss m k c (f.drop k))) (fun _ i _ => 4 - (intOf i).toNat)
      case atStart => exact ⟨0, 0, by omega, by omega, rfl, rfl, hBz, rfl⟩
      case round =>
       obtain ⟨k, n, hk, hn, rfl, rfl, hB, hT⟩ := hrel
       by_cases hlt : k < 4
       . obtain ⟨B, hb⟩ := zd (l := f) (k := k) (by omega)
         obtain ⟨s, hsk⟩ := zd (l := ss) (k := k) (by rw [HLN.out]; exact hlt)
         have hgs : ss.getD k (0, 0) = s := by rw [List.getD_eq_getElem?_getD, hsk]; rfl
         obtain ⟨⟨Z, cz⟩, _, c0, c1, _, _, hRz, _⟩ := (hBk2.below hB nl).at_ hb
         dsimp only at c0 hRz
         have hpl : B.pages.length < 1000000000000 := by rw [HSH.out B (List.mem_of_getElem? hb)]; omega
         have hk1 : (k : Int) < 4 := by omega
         have hT2 : Hid (j3 ss m 0 0 f = if x5 B = true then (if 0 < s.2 ∧ s.2 < m then false else j3 ss m (k + 1) (n + 1) (f.drop (k + 1))) else j3 ss m (k + 1) n (f.drop (k + 1))) := by rw [Hid, hT.out, zu hb, j3, hgs]
         have hRa := hRz.alloc (.cells #[.slice Z B.pages.length cz, .int .i64 B.worn] 99)
         have hBa : Below w2.heap.size w2 (wr.alloc (.cells #[.slice Z B.pages.length cz, .int .i64 B.worn] 99)) := hB.alloc hB.size _
         have hsz : (wr.alloc (.cells #[.slice Z B.pages.length cz, .int .i64 B.worn] 99)).heap.size = wr.heap.size + 1 := by simp
         clear hb hT hgs hRz
         go_wp2_with fail
         refine (Xt B Z _ cz _ rfl hpl hRa).mono ?_
         rintro e w3 ⟨rfl, hb3⟩
         have hB3 := hBa.trans (hb3.mono (by have := hB.size; omega))
         obtain ⟨_, a1, _, _⟩ := (hR.below hB3 nl).span hsk
         clear hsk hb3 hBa hRa
         by_cases hpt : x5 B = true
         . have hT3 := hT2.out
           rw [if_pos hpt] at hT3
           replace hT3 := Lib.hid hT3
           rw [hpt]
           clear hpt hT2
           by_cases h1 : 0 < s.2
           . by_cases h2 : s.2 < m
             . have hx := hT3.out
               rw [if_pos ⟨h1, h2⟩] at hx
               replace hx := Lib.hid hx
               clear hT3
               go_wp2
               go_ret
               exact ⟨zk (by rw [hfin2.out, hx.out]), hB2.trans (hB3.mono hB2.size)⟩
             . have hx := hT3.out
               rw [if_neg (fun h => h2 h.2)] at hx
               replace hx := Lib.hid hx
               clear hT3
               go_wp2
               go_roundw
               (case rel => exact ⟨k + 1, n + 1, by omega, by omega, by go_num, by go_num, hB3, hx⟩)
               (case measure => simp [intOf]; omega)
           . have hx := hT3.out
             rw [if_neg (fun h => h1 h.1)] at hx
             replace hx := Lib.hid hx
             clear hT3
             go_wp2
             go_roundw
             (case rel => exact ⟨k + 1, n + 1, by omega, by omega, by go_num, by go_num, hB3, hx⟩)
             (case measure => simp [intOf]; omega)
         . have hx := hT2.out
           rw [if_neg hpt] at hx
           replace hx := Lib.hid hx
           rw [show x5 B = false from by simpa using hpt]
           clear hT2 hpt
           go_wp2
           go_roundw
           (case rel => exact ⟨k + 1, n, by omega, by omega, by go_num, rfl, hB3, hx⟩)
           (case measure => simp [intOf]; omega)
       . obtain rfl : k = 4 := by omega
         have hx : Hid (j3 ss m 0 0 f = decide (n ≤ 1)) := by rw [Hid, hT.out, List.drop_of_length_le (by omega)]; rfl
         have hz : decide ((n : Int) ≤ 1) = decide (n ≤ 1) := by rw [decide_eq_decide]; omega
         replace hz := Lib.hid hz
         clear hT
         go_wp2
         go_ret
         exact ⟨zk (by rw [hfin2.out, hx.out]; exact hz.out), hB2.trans (hB.mono hB2.size)⟩
 . have hok' : zc f = false := by simpa using hok
   have hfin : Hid (xf f = false) := by unfold Hid xf; rw [if_neg hok]
   rw [hok']
   go_wp2
   go_ret
   exact ⟨zk (by rw [hfin.out]), hb1⟩
end
section
open Go.RowKit Go.Maps
theorem Kt : ∀ {r : List Bk} {i j : Nat}, ya i r = some j -> ∃ m b, j = i + m ∧ r[m]? = some b ∧ x5 b = true
 | [], _, _, h => by simp [ya] at h
 | b :: r, i, j, h => by
   unfold ya at h
   split at h
   . rename_i hp
     cases h
     exact ⟨0, b, rfl, rfl, hp⟩
   . obtain ⟨m, c, h1, h2, h3⟩ := Kt h
     exact ⟨m + 1, c, by omega, by simpa using h2, h3⟩
theorem Ku : ∀ {r : List Bk} {i : Nat}, ya i r = none -> ∀ b ∈ r, x5 b = false
 | [], _, _ => by simp
 | b :: r, i, h => by
   unfold ya at h
   split at h
   . cases h
   . rename_i hp
     intro c hc
     rcases List.mem_cons.1 hc with rfl | hc
     . simpa using hp
     . exact Ku h c hc
theorem za0 {f : List Bk} : ∀ {r : List Bk} {i best j : Nat} {fd : Bool}, xt f i best fd r = (j, true) -> (fd = true ∧ j = best) ∨ ∃ m b, j = i + m ∧ r[m]? = some b ∧ clean b = 4
 | [], _, _, _, _, h => by
   unfold xt at h
   cases h
   exact .inl ⟨rfl, rfl⟩
 | b :: r, i, best, j, fd, h => by
   unfold xt at h
   split at h
   . rename_i hc
     rcases za0 h with ⟨_, rfl⟩ | ⟨m, c, h1, h2, h3⟩
     . exact .inr ⟨0, b, rfl, rfl, hc.1⟩
     . exact .inr ⟨m + 1, c, by omega, by simpa using h2, h3⟩
   . rcases za0 h with h | ⟨m, c, h1, h2, h3⟩
     . exact .inl h
     . exact .inr ⟨m + 1, c, by omega, by simpa using h2, h3⟩
theorem Yf {f : List Bk} : ∀ {r : List Bk} {i best j : Nat} {fd : Bool}, xt f i best fd r = (j, false) -> fd = false ∧ ∀ b ∈ r, clean b ≠ 4
 | [], _, _, _, _, h => by
   unfold xt at h
   cases h
   exact ⟨rfl, by simp⟩
 | b :: r, i, best, j, fd, h => by
   unfold xt at h
   split at h
   . exact absurd (Yf h).1 (by simp)
   . rename_i hc
     obtain ⟨h1, h2⟩ := Yf h
     refine ⟨h1, fun c hcm => ?_⟩
     rcases List.mem_cons.1 hcm with rfl | hcm
     . exact fun h4 => hc ⟨h4, .inl h1⟩
     . exact h2 c hcm
theorem znd {b : Bk} (h : x5 b = true) : 0 < clean b := by unfold x5 at h; simp at h; exact h.1
theorem zk3 {f : List Bk} (h : (Je f).2 = true) : ∃ (m : Nat) (b : Bk), (Je f).1 = (m : Int) ∧ f[m]? = some b ∧ 0 < clean b := by
 unfold Je at h ⊢
 cases hp : ya 0 f with
 | some j =>
   obtain ⟨m, b, h1, h2, h3⟩ := Kt hp
   have : j = m := by omega
   subst this
   exact ⟨j, b, rfl, h2, znd h3⟩
 | none =>
   rw [hp] at h
   dsimp only at h ⊢
   have he : xt f 0 0 false f = ((xt f 0 0 false f).1, true) := by rw [← h]
   rcases za0 he with ⟨hc, _⟩ | ⟨m, b, h1, h2, h3⟩
   . cases hc
   . have : (xt f 0 0 false f).1 = m := by omega
     rw [this]
     exact ⟨m, b, rfl, h2, by omega⟩
theorem zjf {f : List Bk} (hp4 : ∀ b ∈ f, b.pages.length = 4) (h : (Je f).2 = false) : ∀ b ∈ f, clean b = 0 := by
 unfold Je at h
 cases hp : ya 0 f with
 | some j => rw [hp] at h; cases h
 | none =>
   rw [hp] at h
   dsimp only at h
   have he : xt f 0 0 false f = ((xt f 0 0 false f).1, false) := Prod.ext rfl h
   have h1 := (Yf he).2
   intro b hb
   have h2 := Ku hp b hb
   have h3 := X6 (hp4 b hb)
   have h4 := h1 b hb
   unfold x5 at h2
   simp at h2
   omega
theorem zfo (n : Int) : clean ⟨List.replicate 4 pg0, n⟩ = 4 := by
 show (List.replicate 4 pg0).countP xm = 4
 decide
end
section
def spn (b : Bk) : Span := (jo b, most b)
theorem zhs {α : Type} {d : α} : ∀ {l : List α} {i : Nat}, i < l.length -> l.set i (l.getD i d) = l
 | [], i, h => by simp at h
 | a :: l, 0, _ => by simp
 | a :: l, i + 1, h => by
   rw [List.set_cons_succ]
   have := zhs (d := d) (l := l) (i := i) (by simpa using h)
   simpa using this
theorem zkq : ∀ (ps : List Pg) (j i : Nat) (ss : List Span), i < ss.length -> (∀ p ∈ ps, zp p = true) -> 0 ≤ (ss.getD i (0, 0)).2 ->
 (km i j ps).foldl Zb ss = ss.set i (ps.foldl xi (ss.getD i (0, 0)).1, jk (ss.getD i (0, 0)).2 ps)
 | [], j, i, ss, hi, _, _ => by
   show ss = ss.set i ((ss.getD i (0, 0)).1, (ss.getD i (0, 0)).2)
   exact (zhs hi).symm
 | p :: ps, j, i, ss, hi, hp, h => by
   have ho := hp p (List.mem_cons_self ..)
   have hps := fun q hq => hp q (List.mem_cons_of_mem _ hq)
   rw [km, List.foldl_cons]
   by_cases h1 : p.state = 1
   . have hr := xw (xl ho h1)
     have e1 : Zb ss (i, j, p) = ss.set i (xi (ss.getD i (0, 0)).1 p, max (ss.getD i (0, 0)).2 p.rc.seq) := by
      unfold Zb
      dsimp only
      rw [if_pos h1]
      congr 2
      unfold q9 xi
      split
      . rename_i hc; rw [if_pos ⟨by omega, hc⟩]
      . rename_i hc; rw [if_neg (fun e => hc e.2)]
     have hg : (ss.set i (xi (ss.getD i (0, 0)).1 p, max (ss.getD i (0, 0)).2 p.rc.seq)).getD i (0, 0) = (xi (ss.getD i (0, 0)).1 p, max (ss.getD i (0, 0)).2 p.rc.seq) := by
      rw [List.getD_eq_getElem?_getD, List.getElem?_set_self hi]; rfl
     rw [e1, zkq ps (j + 1) i _ (by rw [List.length_set]; exact hi) hps (by rw [hg]; dsimp only; omega), hg, List.set_set]
     rfl
   . have h0 := Jq ho h1
     have e1 : Zb ss (i, j, p) = ss := by unfold Zb; dsimp only; rw [if_neg h1]
     have e2 : xi (ss.getD i (0, 0)).1 p = (ss.getD i (0, 0)).1 := by unfold xi; rw [if_neg (by rintro ⟨h, _⟩; omega)]
     have e3 : jk (ss.getD i (0, 0)).2 (p :: ps) = jk (ss.getD i (0, 0)).2 ps := by
      show jk (max (ss.getD i (0, 0)).2 p.rc.seq) ps = _
      rw [show max (ss.getD i (0, 0)).2 p.rc.seq = (ss.getD i (0, 0)).2 by omega]
     rw [e1, zkq ps (j + 1) i ss hi hps h, List.foldl_cons, e2, e3]
theorem zot : ∀ (f : List Bk) (pre : List Span), (∀ b ∈ f, ∀ p ∈ b.pages, zp p = true) -> (zj pre.length f).foldl Zb (pre ++ List.replicate f.length (0, 0)) = pre ++ f.map spn
 | [], pre, _ => rfl
 | b :: f, pre, hp => by
   have hg : (pre ++ List.replicate (f.length + 1) ((0, 0) : Span)).getD pre.length (0, 0) = (0, 0) := by
    rw [List.getD_eq_getElem?_getD, List.getElem?_append_right nl]; simp
   rw [zj, List.foldl_append, List.length_cons, zkq b.pages 0 pre.length _ (by simp) (hp b (List.mem_cons_self ..)) (by rw [hg]; exact Int.le_refl _), hg]
   have e1 : (pre ++ List.replicate (f.length + 1) ((0, 0) : Span)).set pre.length (b.pages.foldl xi 0, jk 0 b.pages) = (pre ++ [spn b]) ++ List.replicate f.length (0, 0) := by
    rw [List.set_append_right _ _ nl, Nat.sub_self, List.replicate_succ, List.set_cons_zero]
    simp [spn, jo, most]
   have e2 : (pre ++ [spn b]).length = pre.length + 1 := by simp
   have ih := zot f (pre ++ [spn b]) (fun c hc => hp c (List.mem_cons_of_mem _ hc))
   rw [e2] at ih
   dsimp only
   rw [e1, ih]
   simp
theorem zgk {f : List Bk} (h : zc f = true) : spOf (zj 0 f) = f.map spn := by
 have := zot f [] (fun b hb => (xb h hb).2.2.2)
 rw [zf h] at this
 exact this
theorem zbr {ss : List Span} : ∀ (r : List Span) (i : Nat) (n m : Int), Xk ss i n r = some m ↔ (∀ (k : Nat) (a : Span), r[k]? = some a -> ∀ (j : Nat) (b : Span), j < i + k -> ss[j]? = some b -> x7 a b = false) ∧ m = r.foldl (fun n a => max n a.2) n
 | [], i, n, m => by
   unfold Xk
   constructor
   . intro h; cases h; exact ⟨fun k a hk => by simp at hk, rfl⟩
   . rintro ⟨_, rfl⟩; rfl
 | a :: r, i, n, m => by
   unfold Xk
   have ht : (ss.take i).any (x7 a) = true ↔ ∃ (j : Nat) (b : Span), j < i ∧ ss[j]? = some b ∧ x7 a b = true := by
    rw [List.any_eq_true]
    constructor
    . rintro ⟨b, hb, h⟩
      obtain ⟨j, hj⟩ := List.mem_iff_getElem?.1 hb
      rw [List.getElem?_take] at hj
      split at hj
      . rename_i hlt; exact ⟨j, b, hlt, hj, h⟩
      . cases hj
    . rintro ⟨j, b, hj, hb, h⟩
      exact ⟨b, List.mem_iff_getElem?.2 ⟨j, by rw [List.getElem?_take, if_pos hj]; exact hb⟩, h⟩
   by_cases hc : (ss.take i).any (x7 a) = true
   . rw [if_pos hc]
     obtain ⟨j, b, hj, hb, h⟩ := ht.1 hc
     constructor
     . intro h; cases h
     . rintro ⟨h1, _⟩
       have := h1 0 a rfl j b (by omega) hb
       rw [h] at this; cases this
   . rw [if_neg hc, zbr r (i + 1) _ m, List.foldl_cons]
     constructor
     . rintro ⟨h1, h2⟩
       refine ⟨fun k x hk j b hj hb => ?_, h2⟩
       cases k with
       | zero =>
         rw [List.getElem?_cons_zero, Option.some.injEq] at hk
         subst hk
         by_cases hx : x7 a b = true
         . exact absurd (ht.2 ⟨j, b, by omega, hb, hx⟩) hc
         . simpa using hx
       | succ k => exact h1 k x (by simpa using hk) j b (by omega) hb
     . rintro ⟨h1, h2⟩
       exact ⟨fun k x hk j b hj hb => h1 (k + 1) x (by simpa using hk) j b (by omega) hb, h2⟩
theorem Ks {ss : List Span} {n : Int} : ∀ (r : List Bk) (i c : Nat), j3 ss n i c r = true ↔ (∀ (k : Nat) (b : Bk), r[k]? = some b -> x5 b = true -> ¬ (0 < (ss.getD (i + k) (0, 0)).2 ∧ (ss.getD (i + k) (0, 0)).2 < n)) ∧ c + r.countP x5 ≤ 1
 | [], i, c => by unfold j3; simp
 | b :: r, i, c => by
   unfold j3
   rw [List.countP_cons]
   by_cases hb : x5 b = true
   . rw [if_pos hb, if_pos hb]
     by_cases hx : 0 < (ss.getD i (0, 0)).2 ∧ (ss.getD i (0, 0)).2 < n
     . rw [if_pos hx]
       constructor
       . intro h; cases h
       . rintro ⟨h1, _⟩; exact absurd hx (h1 0 b rfl hb)
     . rw [if_neg hx, Ks r (i + 1) (c + 1)]
       constructor
       . rintro ⟨h1, h2⟩
         refine ⟨fun k x hk hp => ?_, by omega⟩
         cases k with
         | zero => exact hx
         | succ k => have := h1 k x (by simpa using hk) hp; rwa [show i + 1 + k = i + (k + 1) by omega] at this
       . rintro ⟨h1, h2⟩
         exact ⟨fun k x hk hp => by have := h1 (k + 1) x (by simpa using hk) hp; rwa [show i + (k + 1) = i + 1 + k by omega] at this, by omega⟩
   . rw [if_neg hb, if_neg hb, Ks r (i + 1) c]
     constructor
     . rintro ⟨h1, h2⟩
       refine ⟨fun k x hk hp => ?_, by omega⟩
       cases k with
       | zero => rw [List.getElem?_cons_zero, Option.some.injEq] at hk; subst hk; exact absurd hp hb
       | succ k => have := h1 k x (by simpa using hk) hp; rwa [show i + 1 + k = i + (k + 1) by omega] at this
     . rintro ⟨h1, h2⟩
       exact ⟨fun k x hk hp => by have := h1 (k + 1) x (by simpa using hk) hp; rwa [show i + (k + 1) = i + 1 + k by omega] at this, by omega⟩
theorem zfm {α : Type} {p : α -> Bool} : ∀ (l : List α), l.countP p ≤ 1 ↔ ∀ (i j : Nat) (a b : α), i ≠ j -> l[i]? = some a -> l[j]? = some b -> p a = true -> p b = false
 | [] => by simp
 | x :: l => by
   rw [List.countP_cons]
   by_cases hx : p x = true
   . rw [if_pos hx]
     constructor
     . intro h i j a b hij ha hb hp
       have h0 : l.countP p = 0 := by omega
       rw [List.countP_eq_zero] at h0
       cases j with
       | zero =>
         cases i with
         | zero => exact absurd rfl hij
         | succ i => exact absurd hp (h0 a (List.mem_of_getElem? (by simpa using ha)))
       | succ j => simpa using h0 b (List.mem_of_getElem? (by simpa using hb))
     . intro h
       have h0 : l.countP p = 0 := by
        rw [List.countP_eq_zero]
        intro a ha
        obtain ⟨j, hj⟩ := List.mem_iff_getElem?.1 ha
        have := h 0 (j + 1) x a (by omega) rfl (by simpa using hj) hx
        rw [this]; simp
       omega
   . rw [if_neg hx, Nat.add_zero, zfm l]
     constructor
     . intro h i j a b hij ha hb hp
       cases i with
       | zero => rw [List.getElem?_cons_zero, Option.some.injEq] at ha; subst ha; exact absurd hp hx
       | succ i =>
         cases j with
         | zero => rw [List.getElem?_cons_zero, Option.some.injEq] at hb; subst hb; simpa using hx
         | succ j => exact h i j a b (by omega) (by simpa using ha) (by simpa using hb) hp
     . intro h i j a b hij ha hb hp
       exact h (i + 1) (j + 1) a b (by omega) (by simpa using ha) (by simpa using hb) hp
structure Ord (f : List Bk) : Prop where
 apart : ∀ (i j : Nat) (a b : Bk), i ≠ j -> f[i]? = some a -> f[j]? = some b -> 0 < most a -> 0 < most b -> ¬ (jo a < most b ∧ jo b < most a)
 begun : ∀ (i j : Nat) (a b : Bk), i ≠ j -> f[i]? = some a -> f[j]? = some b -> x5 a = true -> x5 b = false ∧ (0 < most a -> most b ≤ most a)
theorem Ja {M : Int} : ∀ {f : List Bk} {n : Int}, n ≤ M -> (∀ b ∈ f, most b ≤ M) -> f.foldl (fun n b => max n (most b)) n ≤ M
 | [], _, h, _ => h
 | b :: f, n, h, hb => by
   rw [List.foldl_cons]
   exact Ja (by have := hb b (List.mem_cons_self ..); omega) (fun c hc => hb c (List.mem_cons_of_mem _ hc))
theorem J1 : ∀ {f : List Bk} {n : Int}, n ≤ f.foldl (fun n b => max n (most b)) n
 | [], n => Int.le_refl n
 | b :: f, n => by
   rw [List.foldl_cons]
   have := J1 (f := f) (n := max n (most b))
   omega
theorem Q8 {b : Bk} : ∀ {f : List Bk} {n : Int}, b ∈ f -> most b ≤ f.foldl (fun n b => max n (most b)) n
 | a :: f, n, h => by
   rw [List.foldl_cons]
   rcases List.mem_cons.1 h with rfl | h
   . have := J1 (f := f) (n := max n (most b))
     omega
   . exact Q8 h
theorem zaz {f : List Bk} (h : zc f = true) {i j : Nat} {a b : Bk} (hij : i ≠ j) (ha : f[i]? = some a) (hb : f[j]? = some b) : x7 (spn a) (spn b) = false ↔ ¬ (0 < most a ∧ 0 < most b ∧ jo a < most b ∧ jo b < most a) := by
 have pa := (xb h (List.mem_of_getElem? ha)).2.2.2
 have pb := (xb h (List.mem_of_getElem? hb)).2.2.2
 have hn := ((jm f).1 h).2.2
 have key : x7 (spn a) (spn b) = true ↔ (0 < most a ∧ 0 < most b ∧ jo a < most b ∧ jo b < most a) := by
  unfold x7 spn
  simp only [Bool.and_eq_true, decide_eq_true_iff]
  constructor
  . rintro ⟨h1, h2, h3, h4⟩
    have e1 : jo b ≠ most a := fun e => yk hn hij ha hb (yb pa h1) (e ▸ qr pb h2)
    have e2 : jo a ≠ most b := fun e => yk hn hij ha hb (qr pa h1) (e ▸ yb pb h2)
    exact ⟨h1, h2, by omega, by omega⟩
  . rintro ⟨h1, h2, h3, h4⟩
    exact ⟨h1, h2, by omega, by omega⟩
 rw [← key]
 cases x7 (spn a) (spn b) <;> simp
theorem Zp {f : List Bk} (h : zc f = true) : xf f = true ↔ Ord f := by
 have hge : ∀ k b, f[k]? = some b -> ((f.map spn).getD k (0, 0)).2 = most b := fun k b hb => by rw [List.getD_eq_getElem?_getD, List.getElem?_map, hb]; rfl
 have htop : ∀ n : Int, (f.map spn).foldl (fun n a => max n a.2) n = f.foldl (fun n b => max n (most b)) n := fun n => by rw [List.foldl_map]; rfl
 have hord : ∀ m : Int, Xk (f.map spn) 0 0 (f.map spn) = some m ↔ (∀ (i j : Nat) (a b : Bk), i ≠ j -> f[i]? = some a -> f[j]? = some b -> 0 < most a -> 0 < most b -> ¬ (jo a < most b ∧ jo b < most a)) ∧ m = y8 f := fun m => by
  rw [zbr, htop]
  unfold y8
  constructor
  . rintro ⟨h1, h2⟩
    refine ⟨fun i j a b hij ha hb p1 p2 hc => ?_, h2⟩
    rcases Nat.lt_or_gt_of_ne hij with hlt | hlt
    . have := h1 j (spn b) (by rw [List.getElem?_map, hb]; rfl) i (spn a) (by omega) (by rw [List.getElem?_map, ha]; rfl)
      exact (zaz h (Ne.symm hij) hb ha).1 this ⟨p2, p1, hc.2, hc.1⟩
    . have := h1 i (spn a) (by rw [List.getElem?_map, ha]; rfl) j (spn b) (by omega) (by rw [List.getElem?_map, hb]; rfl)
      exact (zaz h hij ha hb).1 this ⟨p1, p2, hc.1, hc.2⟩
  . rintro ⟨h1, h2⟩
    refine ⟨fun k x hk j y hj hy => ?_, h2⟩
    rw [List.getElem?_map] at hk hy
    obtain ⟨a, ha, rfl⟩ := Option.map_eq_some_iff.1 hk
    obtain ⟨b, hb, rfl⟩ := Option.map_eq_some_iff.1 hy
    exact (zaz h (by omega) ha hb).2 (fun ⟨p1, p2, p3⟩ => h1 k j a b (by omega) ha hb p1 p2 p3)
 unfold xf ordI
 rw [if_pos h, zgk h]
 have hpart : j3 (f.map spn) (y8 f) 0 0 f = true ↔ ∀ (i j : Nat) (a b : Bk), i ≠ j -> f[i]? = some a -> f[j]? = some b -> x5 a = true -> x5 b = false ∧ (0 < most a -> most b ≤ most a) := by
  rw [Ks, Nat.zero_add, zfm]
  constructor
  . rintro ⟨h1, h2⟩ i j a b hij ha hb hp
    refine ⟨h2 i j a b hij ha hb hp, fun h0 => ?_⟩
    have := h1 i a ha hp
    rw [Nat.zero_add, hge i a ha] at this
    have h3 : most b ≤ y8 f := Q8 (List.mem_of_getElem? hb)
    omega
  . intro h1
    refine ⟨fun k a ha hp => ?_, fun i j a b hij ha hb hp => (h1 i j a b hij ha hb hp).1⟩
    rw [Nat.zero_add, hge k a ha]
    rintro ⟨h2, h3⟩
    have : y8 f ≤ most a := Ja (by omega) (fun b hb => by
     obtain ⟨j, hj⟩ := List.mem_iff_getElem?.1 hb
     by_cases hkj : k = j
     . subst hkj
       rw [ha, Option.some.injEq] at hj
       rw [hj]; exact Int.le_refl _
     . exact (h1 k j a b hkj ha hj hp).2 h2)
    omega
 cases ho : Xk (f.map spn) 0 0 (f.map spn) with
 | none =>
   constructor
   . intro h; cases h
   . intro hO
     have := (hord (y8 f)).2 ⟨hO.apart, rfl⟩
     rw [ho] at this; cases this
 | some m =>
   obtain ⟨h1, rfl⟩ := (hord m).1 ho
   dsimp only
   rw [hpart]
   exact ⟨fun h2 => ⟨h1, h2⟩, fun h2 => h2.begun⟩
theorem zh0 {f : List Bk} (h : xf f = true) : zc f = true := by
 unfold xf at h
 split at h
 . assumption
 . cases h
end
section
open Go.RowKit Go.Maps
def Xe (f : List Bk) (i : Nat) (v : Int) : Prop := 0 < (last f ((i : Int) + 1)).seq ∧ (last f ((i : Int) + 1)).kind = 2 ∧ (last f ((i : Int) + 1)).val ≠ v
instance (f : List Bk) (i : Nat) (v : Int) : Decidable (Xe f i v) := by unfold Xe; infer_instance
def qc (f : List Bk) : Nat -> List Int -> Bool
 | _, [] => true
 | i, v :: r => if valB v = true then (if Xe f i v then false else qc f (i + 1) r) else false
def xg (s : St) : Bool := if s.disk.length = 6 then (if xf s.flash = true then qc s.flash 0 s.disk else false) else false
theorem Xv (r : Rc) (w : World) : Calls Tryz.prog 33 #[.agg #[.int .i64 r.kind, .int .i64 r.seq, .int .i64 r.addr, .int .i64 r.val]] w fun e w' => e = .returned (.bool (decide (r.kind = 1))) ∧ Below w.heap.size w w' := by
 go_enter Tryz.func33, Tryz.ntmps33
 go_wp2
 go_ret
 exact ⟨zk (by rw [Bool.eq_iff_iff]; simp), bw⟩
theorem yc {xs : List Int} (h : xs ≠ []) : ints xs ≠ [] := fun e => h (by
 have := congrArg List.length e
 rw [yu] at this
 exact List.length_eq_zero_iff.1 this)
theorem zg9 {r : Rc} (h : 0 < r.seq) : Zf r = some r := by unfold Zf; rw [if_pos h]
theorem zha {r : Rc} (h : ¬ 0 < r.seq) : Zf r = none := by unfold Zf; rw [if_neg h]
theorem J2 {f : List Bk} (h : zc f = true) : ∀ b ∈ f, ∀ p ∈ b.pages, zp p = true := fun b hb => (xb h hb).2.2.2
theorem Q9 {f : List Bk} (h : zc f = true) {a : Int} (h0 : 0 < (last f a).seq) : (last f a).kind = 1 ∨ (last f a).kind = 2 := by
 have := (Kc (J2 h) h0).1
 unfold xk ze0 at this
 simp at this
 omega
theorem j8 (s : St) (A D : Option Addr) (n m c d : Nat) (w : World) (hn : n = s.flash.length) (hm : m = s.disk.length) (hF : Fl w A s.flash) (hD : Row w D (ints s.disk)) :
 Calls Tryz.prog 11 #[.agg #[.slice A n c, .slice D m d]] w fun e w' => e = .returned (.bool (xg s)) ∧ Below w.heap.size w w' := by
 subst hn; subst hm
 have hB0 : Below w.heap.size w (w.alloc (.cells #[.slice A s.flash.length c, .slice D s.disk.length d] 28)) := (Below.refl _ _).alloc nl _
 have hF0 := hF.below hB0 nl
 have hD0 := hD.below hB0 nl
 by_cases h6 : s.disk.length = 6
 . have H6 := Lib.hid h6
   have hfin : Hid (xg s = if xf s.flash = true then qc s.flash 0 s.disk else false) := by unfold Hid xg; rw [if_pos h6]
   obtain ⟨db, dO, rfl⟩ := hD.addr (yc (by intro e; rw [e] at h6; simp at h6))
   rw [h6] at hB0 hF0 hD0 ⊢
   clear h6
   go_enter Tryz.func11, Tryz.ntmps11
   go_wp2_with fail
   refine (zbd s.flash A _ c _ rfl hF0).mono ?_
   rintro e w1 ⟨rfl, hb⟩
   have hs1 := hb.size
   simp only [World.size_alloc] at hs1
   have x0 : w1.cell? ⟨w.heap.size, 0, none⟩ = some (.slice A s.flash.length c) := (hb.cell (p := ⟨w.heap.size, 0, none⟩) (by simp)).trans (by simp)
   have x1 : w1.cell? ⟨w.heap.size, 1, none⟩ = some (.slice (some ⟨db, dO, none⟩) 6 d) := (hb.cell (p := ⟨w.heap.size, 1, none⟩) (by simp)).trans (by simp)
   have hF1 := hF0.below hb nl
   have hD1 := hD0.below hb nl
   have hB1 := hB0.trans (hb.mono (by simp))
   clear hb hF0 hD0 hB0
   by_cases hord : xf s.flash = true
   . have hok := zh0 hord
     have hfin2 : Hid (xg s = qc s.flash 0 s.disk) := by rw [Hid, hfin.out, if_pos hord]
     have hlm := Lib.hid (fun a => zjn hok a)
     have hkd := Lib.hid (fun a h => Q9 (a := a) hok h)
     have hrc := Lib.hid (fun a h => Kc (a := a) (J2 hok) h)
     rw [hord]
     clear hord hfin
     go_wp2_with fail
     refine (Y2 s.flash A _ c _ rfl hok hF1).mono ?_
     rintro e w2 ⟨rfl, hM, hb⟩
     have hs2 := hb.size
     replace x0 := (hb.cell (p := ⟨w.heap.size, 0, none⟩) (by show w.heap.size < _; omega)).trans x0
     replace x1 := (hb.cell (p := ⟨w.heap.size, 1, none⟩) (by show w.heap.size < _; omega)).trans x1
     have hD2 := hD1.below hb nl
     have hB2 := hB1.trans (hb.mono (by omega))
     have hMl := hM.lt
     clear hb hF1 hD1 hB1 hok
     go_wp2
     go_loopw [25] (fun i wr => ∃ k : Nat, k ≤ 6 ∧ i = .int .i64 k ∧ Below w2.heap.size w2 wr ∧ Hid (qc s.flash 0 s.disk = qc s.flash k (s.disk.drop k))) (fun i _ => 6 - (intOf i).toNat)
     case atStart => exact ⟨0, by omega, rfl, Below.refl _ _, rfl⟩
     case round =>
      obtain ⟨k, hk, rfl, hB, hT⟩ := hrel
      by_cases hlt : k < 6
      . obtain ⟨v, hv⟩ := zd (l := s.disk) (k := k) (by rw [H6.out]; exact hlt)
        obtain ⟨cv, _⟩ := (hD2.below hB nl).int_ hv
        have hk1 : (k : Int) < 6 := by omega
        have e1 : IntKind.i64.wrap ((k : Int) + 1) = (k : Int) + 1 := IntWalk.i64_in _ (by omega)
        have hT2 : Hid (qc s.flash 0 s.disk = if valB v = true then (if Xe s.flash k v then false else qc s.flash (k + 1) (s.disk.drop (k + 1))) else false) := by rw [Hid, hT.out, zu hv, qc]
        have hlk := (hM.below hB hMl).look_ok (t := 59) Tryz.underlying59 Tryz.underlying3 zhn (k := (k : Int) + 1) (zof (by omega))
        rw [hlm.out] at hlk
        have hkdk := Lib.hid (hkd.out ((k : Int) + 1))
        have hdb : Hid (Xe s.flash k v ↔ (0 < (last s.flash ((k : Int) + 1)).seq ∧ (last s.flash ((k : Int) + 1)).kind = 2 ∧ (last s.flash ((k : Int) + 1)).val ≠ v)) := Iff.rfl
        generalize last s.flash ((k : Int) + 1) = r at *
        unfold rcV at hlk
        clear hv hT
        by_cases hvo : valB v = true
        . have hT3 := hT2.out
          rw [if_pos hvo] at hT3
          replace hT3 := Lib.hid hT3
          have hval := Kd v wr
          rw [hvo] at hval
          clear hvo hT2
          by_cases hr : 0 < r.seq
          . rw [zg9 hr] at hlk
            simp only [Option.getD_some, Option.isSome_some] at hlk
            have hBa : Below w2.heap.size w2 (wr.alloc (.cells #[.int .i64 r.kind, .int .i64 r.seq, .int .i64 r.addr, .int .i64 r.val] 64)) := hB.alloc hB.size _
            go_wp2_with fail
            refine hval.mono ?_
            rintro e w3 ⟨rfl, rfl⟩
            go_wp2_with fail
            refine (Xv r _).mono ?_
            rintro e w3 ⟨rfl, hb3⟩
            have y3 : w3.cell? ⟨wr.heap.size, 3, none⟩ = some (.int .i64 r.val) := (hb3.cell (p := ⟨wr.heap.size, 3, none⟩) (by simp)).trans (by simp)
            have hB3 := hBa.trans (hb3.mono (by have := hB.size; simp; omega))
            clear hb3 hBa hlk
            by_cases h1 : r.kind = 1
            . have hx := hT3.out
              rw [if_neg (fun e => by have := (hdb.out.1 e).2.1; omega)] at hx
              replace hx := Lib.hid hx
              rw [show decide (r.kind = 1) = true from decide_eq_true h1]
              clear hT3 h1
              go_wp2
              go_roundw
              (case rel => exact ⟨k + 1, by omega, by go_num, hB3, hx⟩)
              (case measure => simp [intOf]; omega)
            . have h2 : r.kind = 2 := by rcases hkdk.out hr with h | h; exact absurd h h1; exact h
              rw [show decide (r.kind = 1) = false from decide_eq_false h1]
              by_cases h3 : r.val = v
              . have hx := hT3.out
                rw [if_neg (fun e => (hdb.out.1 e).2.2 h3)] at hx
                replace hx := Lib.hid hx
                have h3' : (r.val != v) = false := by rw [bne_eq_false_iff_eq]; exact h3
                clear hT3 h1 h2 h3
                go_wp2
                go_roundw
                (case rel => exact ⟨k + 1, by omega, by go_num, hB3, hx⟩)
                (case measure => simp [intOf]; omega)
              . have hx := hT3.out
                rw [if_pos (hdb.out.2 ⟨hr, h2, h3⟩)] at hx
                replace hx := Lib.hid hx
                have h3' : (r.val != v) = true := by rw [bne_iff_ne]; exact h3
                clear hT3 h1 h2 h3
                go_wp2
                go_ret
                exact ⟨zk (by rw [hfin2.out, hx.out]), hB2.trans (hB3.mono (by omega))⟩
          . simp only [zha hr, Option.getD_none, Option.isSome_none, rc0] at hlk
            have hx := hT3.out
            rw [if_neg (fun e => hr (hdb.out.1 e).1)] at hx
            replace hx := Lib.hid hx
            have hBa : Below w2.heap.size w2 (wr.alloc (.cells #[.int .i64 0, .int .i64 0, .int .i64 0, .int .i64 0] 64)) := hB.alloc hB.size _
            clear hT3
            go_wp2_with fail
            refine hval.mono ?_
            rintro e w3 ⟨rfl, rfl⟩
            go_wp2
            go_roundw
            (case rel => exact ⟨k + 1, by omega, by go_num, hBa, hx⟩)
            (case measure => simp [intOf]; omega)
        . have hx := hT2.out
          rw [if_neg hvo] at hx
          replace hx := Lib.hid hx
          have hval := Kd v wr
          rw [show valB v = false from by simpa using hvo] at hval
          clear hvo hT2 hlk
          go_wp2_with fail
          refine hval.mono ?_
          rintro e w3 ⟨rfl, rfl⟩
          go_wp2
          go_ret
          exact ⟨zk (by rw [hfin2.out, hx.out]), hB2.trans (hB.mono (by omega))⟩
      . have hk4 : (6 : Int) ≤ (k : Int) := by omega
        have hx : Hid (qc s.flash 0 s.disk = true) := by rw [Hid, hT.out, List.drop_of_length_le (by rw [H6.out]; omega)]; rfl
        clear hT
        go_wp2
        go_ret
        exact ⟨zk (by rw [hfin2.out, hx.out]), hB2.trans (hB.mono (by omega))⟩
   . have hfin2 : Hid (xg s = false) := by rw [Hid, hfin.out, if_neg hord]
     rw [show xf s.flash = false from by simpa using hord]
     clear hord
     go_wp2
     go_ret
     exact ⟨zk hfin2.out.symm, hB1⟩
 . have hfin : Hid (xg s = false) := by unfold Hid xg; rw [if_neg h6]
   have h6' : ((s.disk.length : Int) != 6) = true := by rw [bne_iff_ne]; omega
   clear h6
   go_enter Tryz.func11, Tryz.ntmps11
   go_wp2
   go_ret
   exact ⟨zk hfin.out.symm, hB0⟩
end
section
open Go.RowKit Go.Maps
end
section
open Go.RowKit Go.Maps
theorem zco {s : St} (h : xg s = true) : s.disk.length = 6 ∧ xf s.flash = true ∧ qc s.flash 0 s.disk = true := by
 unfold xg at h
 split at h
 . rename_i h1
   split at h
   . rename_i h2; exact ⟨h1, h2, h⟩
   . cases h
 . cases h
def OwnI (w : World) (base : Nat) (v : Value) (xs : List Int) : Prop := w.ownsRow base 3 1 v xs.length (ints xs)
theorem OwnI.below {w w' : World} {base B : Nat} {v : Value} {xs : List Int} (h : OwnI w base v xs) (hb : Below B w w') (hB : w.heap.size ≤ B) : OwnI w' base v xs := ji h fun b _ hl => hb.block b (by omega)
theorem OwnI.agr {w w' : World} {base : Nat} {v : Value} {xs : List Int} {S : Nat -> Prop} (h : OwnI w base v xs) (hb : Agr S w w') (hS : ∀ b, base ≤ b -> ¬ S b) : OwnI w' base v xs := by
 refine ji h fun b hbl hl => hb.block b hl (hS b ?_)
 exact (World.ownsRow.lt h b hbl).1
theorem OwnI.alloc {w : World} {base : Nat} {v : Value} {xs : List Int} (h : OwnI w base v xs) (o : Obj) : OwnI (w.alloc o) base v xs := h.below (B := w.heap.size) ((Below.refl _ _).alloc nl _) nl
theorem OwnI.nil (w : World) (base : Nat) : OwnI w base (.slice none 0 0) [] := World.ownsRow_nil w base _ _
theorem OwnI.snoc {w : World} {base g n c : Nat} {xs : List Int} {x : Int} (hn : n = xs.length + 1) (h : w.ownsRow base 3 1 (.slice (some ⟨g, 0, none⟩) (xs.length + 1) c) (xs.length + 1) (ints xs ++ [.int .i64 x])) : OwnI w base (.slice (some ⟨g, 0, none⟩) n c) (xs ++ [x]) := by
 subst hn
 unfold OwnI ints
 rw [List.length_append, List.map_append]
 exact h
theorem OwnI.out {w : World} {base : Nat} {v : Value} {xs : List Int} (h : OwnI w base v xs) : ∃ A c, v = .slice A xs.length c ∧ Row w A (ints xs) ∧ (∀ b, blk A b -> base ≤ b ∧ b < w.heap.size) ∧ xs.length ≤ c := by
 have h' := h
 obtain ⟨hl, ⟨hv, hz⟩ | ⟨g, cap, cur, hv, hb, hh, hnc, hm, hs, ht⟩⟩ := h
 . have hxs : xs = [] := List.eq_nil_of_length_eq_zero hz
   subst hxs
   exact ⟨none, 0, hv, Row.nil _ _, (fun b hb => by cases hb), Nat.le_refl _⟩
 . refine ⟨some ⟨g, 0, none⟩, cap, hv, ?_, fun b hb' => ?_, hnc⟩
   . rw [hv] at h'; exact Row.of_own h'
   . rw [zg] at hb'
     subst hb'
     exact ⟨hb, (Array.getElem?_eq_some_iff.1 hh).1⟩
end
section
open Go.RowKit Go.Maps
theorem OwnI.lit (w : World) (base : Nat) (hb : base ≤ w.heap.size) : OwnI (w.alloc (.cells #[] 3)) base (.slice (some ⟨w.heap.size, 0, none⟩) 0 0) [] := World.ownsRow_lit w #[] 0 hb (by unfold maxLen; omega) rfl
theorem zgz (A A' : Option Addr) (n m c c' : Nat) (xs ys : List Int) (w : World) (hn : n = xs.length) (hm : m = ys.length) (hl : xs.length < 1000000000000) (hR : Row w A (ints xs)) (hR' : Row w A' (ints ys)) :
 Calls Tryz.prog 19 #[.slice A n c, .slice A' m c'] w fun e w' => e = .returned (.bool (decide (xs = ys))) ∧ Below w.heap.size w w' := by
 subst hn; subst hm
 by_cases hlen : xs.length = ys.length
 . have HL := Lib.hid hlen
   rw [← hlen]
   clear hlen
   go_enter Tryz.func19, Tryz.ntmps19
   go_wp2
   go_loopw [5] (fun i wr => ∃ k : Nat, k ≤ xs.length ∧ i = .int .i64 k ∧ Below w.heap.size w wr ∧ Hid (decide (xs = ys) = decide (xs.drop k = ys.drop k))) (fun i _ => xs.length - (intOf i).toNat)
   case atStart => exact ⟨0, by omega, rfl, Below.refl _ _, rfl⟩
   case round =>
    obtain ⟨k, hk, rfl, hB, hT⟩ := hrel
    by_cases hlt : k < xs.length
    . obtain ⟨x, hx⟩ := zd hlt
      obtain ⟨y, hy⟩ := zd (l := ys) (k := k) (by rw [← HL.out]; exact hlt)
      obtain ⟨b, o, rfl⟩ := hR.addr (yc (by intro e; rw [e] at hx; simp at hx))
      obtain ⟨b', o', rfl⟩ := hR'.addr (yc (by intro e; rw [e] at hy; simp at hy))
      obtain ⟨c0, _⟩ := (hR.below hB nl).int_ hx
      obtain ⟨d0, _⟩ := (hR'.below hB nl).int_ hy
      have hk1 : (k : Int) < xs.length := by omega
      have e1 : IntKind.i64.wrap ((k : Int) + 1) = (k : Int) + 1 := IntWalk.i64_in _ (by omega)
      have hT2 : Hid (decide (xs = ys) = decide (x :: xs.drop (k + 1) = y :: ys.drop (k + 1))) := by rw [Hid, hT.out, zu hx, zu hy]
      clear hx hy hT
      by_cases he : x = y
      . subst he
        have hz : Hid (decide (xs = ys) = decide (xs.drop (k + 1) = ys.drop (k + 1))) := by rw [Hid, hT2.out]; simp
        clear hT2
        go_wp2
        go_quiet (fail)
        have hBq := yq hB nq
        go_wp2
        go_roundw
        (case rel => exact ⟨k + 1, by omega, by go_num, hBq, hz⟩)
        (case measure => simp [intOf]; omega)
      . have hz : Hid (decide (xs = ys) = false) := by rw [Hid, hT2.out]; simp [he]
        have hne : (x != y) = true := by rw [bne_iff_ne]; exact he
        clear hT2 he
        go_wp2
        go_quiet (fail)
        have hBq := yq hB nq
        go_wp2
        go_ret
        exact ⟨zk hz.out.symm, hBq⟩
    . have hk4 : (xs.length : Int) ≤ (k : Int) := by omega
      have hz : Hid (decide (xs = ys) = true) := by rw [Hid, hT.out, List.drop_of_length_le (by omega), List.drop_of_length_le (by have := HL.out; omega)]; simp
      clear hT
      go_wp2
      go_ret
      exact ⟨zk hz.out.symm, hB⟩
 . have hz : Hid (decide (xs = ys) = false) := by rw [Hid]; exact decide_eq_false (fun e => hlen (by rw [e]))
   have hne : ((xs.length : Int) != (ys.length : Int)) = true := by rw [bne_iff_ne]; omega
   clear hlen
   go_enter Tryz.func19, Tryz.ntmps19
   go_wp2
   go_ret
   exact ⟨zk hz.out.symm, Below.refl _ _⟩
end
section
theorem zab {a : Int} : ∀ {ps : List Pg} {o : Rc}, (∀ p ∈ ps, p.state ≠ 1) -> xp a o ps = o
 | [], _, _ => rfl
 | p :: ps, o, h => by
   show xp a (zv a o p) ps = o
   have : zv a o p = o := by unfold zv; rw [if_neg (fun e => h p (List.mem_cons_self ..) e.1)]
   rw [this]
   exact zab fun q hq => h q (List.mem_cons_of_mem _ hq)
theorem zey : ∀ {f : List Bk} {a : Int} {o : Rc}, (∀ b ∈ f, ∀ p ∈ b.pages, p.state ≠ 1) -> f.foldl (fun o b => xp a o b.pages) o = o
 | [], _, _, _ => rfl
 | b :: f, a, o, h => by
   rw [List.foldl_cons, zab (h b (List.mem_cons_self ..))]
   exact zey fun c hc => h c (List.mem_cons_of_mem _ hc)
theorem zk9 : ∀ b ∈ zx, ∀ p ∈ b.pages, p.state ≠ 1 := by decide
theorem znj (a : Int) : last zx a = rc0 := zey zk9
theorem zk2 : xf zx = true := by decide
theorem zcc : ∀ {xs : List Int} {i : Nat}, (∀ v ∈ xs, valB v = true) -> qc zx i xs = true
 | [], _, _ => rfl
 | x :: xs, i, h => by
   unfold qc
   rw [if_pos (h x (List.mem_cons_self ..)), if_neg]
   . exact zcc fun v hv => h v (List.mem_cons_of_mem _ hv)
   . unfold Xe
     rw [znj]
     rintro ⟨h0, _⟩
     exact absurd h0 (by decide)
theorem zf3 {xs : List Int} (h6 : xs.length = 6) (hv : ∀ v ∈ xs, valB v = true) : xg ⟨zx, xs⟩ = true := by
 unfold xg
 rw [if_pos h6, if_pos zk2]
 exact zcc hv
theorem zj0 : ∀ v ∈ Ye, valB v = true := by decide
theorem zqb : xg ⟨zx, Ye⟩ = true := zf3 rfl zj0
end
section
theorem Jy {b : Bk} (hp : ∀ p ∈ b.pages, zp p = true) : (most b = 0 ∧ xd b.pages = []) ∨ (0 < most b ∧ most b ∈ xd b.pages ∧ jo b ∈ xd b.pages ∧ 0 < jo b ∧ jo b ≤ most b) := by
 cases hs : xd b.pages with
 | nil => exact .inl ⟨Q1 hp hs, rfl⟩
 | cons q r =>
   have hq : q ∈ xd b.pages := by rw [hs]; exact List.mem_cons_self ..
   have h1 := (Kq hp hq).1
   have h2 := y5 hp hq
   have h0 : 0 < most b := by omega
   rw [← hs]
   exact .inr ⟨h0, yb hp h0, qr hp h0, Zt hp h0⟩
theorem zef {b c : Bk} (hb : ∀ p ∈ b.pages, zp p = true) (hc : ∀ p ∈ c.pages, zp p = true) (h : xd c.pages = xd b.pages) : most c = most b ∧ (0 < most b -> jo c = jo b) := by
 rcases Jy hb with ⟨b1, b2⟩ | ⟨b1, b2, b3, b4, b5⟩ <;> rcases Jy hc with ⟨c1, c2⟩ | ⟨c1, c2, c3, c4, c5⟩
 . exact ⟨by omega, fun h => by omega⟩
 . rw [h, b2] at c2; cases c2
 . rw [← h, c2] at b2; cases b2
 . have m1 := y5 hb (h ▸ c2)
   have m2 := y5 hc (h.symm ▸ b2)
   have l1 := Kb hb (h ▸ c3)
   have l2 := Kb hc (h.symm ▸ b3)
   exact ⟨by omega, fun _ => by omega⟩
theorem zcu {b c : Bk} (hb : ∀ p ∈ b.pages, zp p = true) (hc : ∀ p ∈ c.pages, zp p = true) {s : Int} (h : (xd c.pages).Perm ([s] ++ xd b.pages)) (hs : most b < s) :
 most c = s ∧ (0 < most b -> jo c = jo b) ∧ (most b = 0 -> jo c = s) := by
 have hm : ∀ q, q ∈ xd c.pages ↔ q = s ∨ q ∈ xd b.pages := fun q => by rw [h.mem_iff]; simp
 have hsm := (hm s).2 (.inl rfl)
 have h1 := y5 hc hsm
 rcases Jy hc with ⟨c1, c2⟩ | ⟨c1, c2, c3, c4, c5⟩
 . rw [c2] at hsm; cases hsm
 . have hcs : most c = s := by
    rcases (hm _).1 c2 with e | e
    . exact e
    . have := y5 hb e; omega
   refine ⟨hcs, fun h0 => ?_, fun h0 => ?_⟩
   . have l1 := qr hb h0
     have l2 := Kb hc ((hm _).2 (.inr l1))
     rcases (hm _).1 c3 with e | e
     . have := Zt hb h0; omega
     . have := Kb hb e; omega
   . rcases (hm _).1 c3 with e | e
     . exact e
     . have := y5 hb e; have := (Kq hb e).1; omega
theorem zay {b : Bk} (h4 : b.pages.length = 4) (hc : clean b = 4) : xd b.pages = [] := by
 have hall : ∀ p ∈ b.pages, xm p = true := by
  rw [← List.countP_eq_length]
  have : b.pages.countP xm = clean b := rfl
  omega
 unfold xd
 rw [List.map_eq_nil_iff, List.filter_eq_nil_iff]
 intro p hp
 have := hall p hp
 unfold xm at this
 simp at this
 simp [this]
theorem getElem?_set_cases {α : Type} {l : List α} {i j : Nat} {x y : α} (h : (l.set i x)[j]? = some y) : (j = i ∧ y = x) ∨ (j ≠ i ∧ l[j]? = some y) := by
 by_cases hj : j = i
 . subst hj
   have hl := (List.getElem?_eq_some_iff.1 h).1
   rw [List.getElem?_set_self (by simpa using hl)] at h
   cases h
   exact .inl ⟨rfl, rfl⟩
 . rw [List.getElem?_set_ne (by omega)] at h
   exact .inr ⟨hj, h⟩
def Sole (f : List Bk) (i : Nat) : Prop := ∀ (j : Nat) (c : Bk), j ≠ i -> f[j]? = some c -> x5 c = false
theorem Sole.set {f : List Bk} {i : Nat} (h : Sole f i) (b : Bk) : Sole (f.set i b) i := fun j c hj hc => by
 rcases getElem?_set_cases hc with ⟨e, _⟩ | ⟨_, hc⟩
 . exact absurd e hj
 . exact h j c hj hc
theorem zcf {b : Bk} (h4 : b.pages.length = 4) (hc : clean b ≠ 0) : x5 b = true ∨ clean b = 4 := by
 have := X6 h4
 by_cases h : clean b = 4
 . exact .inr h
 . left; unfold x5; simp; omega
theorem zo9 {f : List Bk} (h : zc f = true) (hO : Ord f) {i : Nat} {b : Bk} (hb : f[i]? = some b) {r : Rc} (hr : xk r = true) (torn : Bool) (hc : clean b ≠ 0) (hS : Sole f i) (hs : ∀ c ∈ f, most c < r.seq) :
 Ord (f.set i (jf b r torn)) := by
 have hbm := List.mem_of_getElem? hb
 obtain ⟨l4, _, _, hbp⟩ := xb h hbm
 obtain ⟨_, kp, k3, k4, k5⟩ := Z2 h hbm hr torn hc
 have hbs := hs b hbm
 have hbn := Q2 hbp
 -- what the new block spans
 have hx : (most (jf b r torn) = most b ∧ (0 < most b -> jo (jf b r torn) = jo b)) ∨ (most (jf b r torn) = r.seq ∧ (0 < most b -> jo (jf b r torn) = jo b) ∧ (most b = 0 -> jo (jf b r torn) = r.seq)) := by
  cases torn
  . exact .inr (zcu hbp kp (k5 rfl) hbs)
  . exact .inl (zef hbp kp (k4 rfl))
 -- if it held a record it was begun: no other has a greater number
 have hbeg : 0 < most b -> ∀ (j : Nat) (c : Bk), j ≠ i -> f[j]? = some c -> most c ≤ most b := fun h0 j c hj hcj => by
  rcases zcf l4 hc with hp | h4
  . exact (hO.begun i j b c (Ne.symm hj) hb hcj hp).2 h0
  . have := Q1 hbp (zay l4 h4); omega
 have key : ∀ (j : Nat) (c : Bk), j ≠ i -> f[j]? = some c -> 0 < most (jf b r torn) -> 0 < most c -> ¬ (jo (jf b r torn) < most c) := fun j c hj hcj h1 h2 hlt => by
  have hcm := List.mem_of_getElem? hcj
  have hcp := (xb h hcm).2.2.2
  have hcs := hs c hcm
  by_cases h0 : 0 < most b
  . have hle := hbeg h0 j c hj hcj
    have e1 : jo (jf b r torn) = jo b := by
     rcases hx with hx | hx
     . exact hx.2 h0
     . exact hx.2.1 h0
    have e2 : most c ≠ most b := fun e => yk ((jm f).1 h).2.2 hj hcj hb (yb hcp h2) (e ▸ yb hbp h0)
    have := Zt hcp h2
    exact hO.apart i j b c (Ne.symm hj) hb hcj h0 h2 ⟨by omega, by omega⟩
  . rcases hx with hx | hx
    . omega
    . have := hx.2.2 (by omega); omega
 refine ⟨fun i' j a c hij ha hcj p1 p2 p3 => ?_, fun i' j a c hij ha hcj hp => ?_⟩
 . rcases getElem?_set_cases ha with ⟨rfl, rfl⟩ | ⟨hi, ha'⟩
   . rcases getElem?_set_cases hcj with ⟨rfl, _⟩ | ⟨hj, hcj⟩
     . exact hij rfl
     . exact key j c hj hcj p1 p2 p3.1
   . rcases getElem?_set_cases hcj with ⟨rfl, rfl⟩ | ⟨hj, hcj⟩
     . exact key i' a hi ha' p2 p1 p3.2
     . exact hO.apart i' j a c hij ha' hcj p1 p2 p3
 . rcases getElem?_set_cases ha with ⟨rfl, rfl⟩ | ⟨hi, ha'⟩
   . rcases getElem?_set_cases hcj with ⟨rfl, _⟩ | ⟨hj, hcj⟩
     . exact absurd rfl hij
     . refine ⟨hS j c hj hcj, fun h0 => ?_⟩
       have hcs := hs c (List.mem_of_getElem? hcj)
       rcases hx with hx | hx
       . have := hbeg (by omega) j c hj hcj; omega
       . omega
   . rw [hS i' a hi ha'] at hp; cases hp
theorem zd1 {f : List Bk} {c : Bk} (h : c ∈ f) : most c < next f := by
 have := Q8 (n := 0) h
 unfold next y8
 omega
theorem zeq {f : List Bk} (h : zc f = true) (hO : Ord f) (ho : (Je f).2 = true) : ∃ (m : Nat) (b : Bk), Je f = ((m : Int), true) ∧ f[m]? = some b ∧ clean b ≠ 0 ∧ Sole f m := by
 obtain ⟨m, b, h1, h2, h3⟩ := zk3 ho
 refine ⟨m, b, Prod.ext h1 ho, h2, by omega, fun j c hj hc => ?_⟩
 by_cases hp : x5 c = true
 . exfalso
   unfold Je at h1
   cases hg : ya 0 f with
   | some k =>
     obtain ⟨n, d, e1, e2, e3⟩ := Kt hg
     rw [hg] at h1
     have : n = m := by dsimp only at h1; omega
     subst this
     have := (hO.begun j n c d hj hc e2 hp).1
     rw [this] at e3; cases e3
   | none =>
     have := Ku hg c (List.mem_of_getElem? hc)
     rw [hp] at this; cases this
 . simpa using hp
theorem Jr (torn : Bool) (n : Int) : most ⟨List.replicate 4 (if torn then ⟨2, rc0⟩ else pg0), n⟩ = 0 ∧ x5 ⟨List.replicate 4 (if torn then ⟨2, rc0⟩ else pg0), n⟩ = false := by
 cases torn
 . exact ⟨rfl, rfl⟩
 . exact ⟨rfl, rfl⟩
theorem zh1 {f : List Bk} (hO : Ord f) (hp : ∀ b ∈ f, 0 ≤ most b) (i : Nat) (torn : Bool) : Ord (wipe f i torn) := by
 obtain ⟨z1, z2⟩ := Jr torn ((f.getD i zbk).worn + 1)
 unfold wipe
 refine ⟨fun i' j a c hij ha hcj p1 p2 p3 => ?_, fun i' j a c hij ha hcj hq => ?_⟩
 . rcases getElem?_set_cases ha with ⟨rfl, rfl⟩ | ⟨hi, ha'⟩
   . omega
   . rcases getElem?_set_cases hcj with ⟨rfl, rfl⟩ | ⟨hj, hcj⟩
     . omega
     . exact hO.apart i' j a c hij ha' hcj p1 p2 p3
 . rcases getElem?_set_cases ha with ⟨rfl, rfl⟩ | ⟨hi, ha'⟩
   . rw [z2] at hq; cases hq
   . rcases getElem?_set_cases hcj with ⟨rfl, rfl⟩ | ⟨hj, hcj⟩
     . exact ⟨z2, fun _ => by have := hp a (List.mem_of_getElem? ha'); omega⟩
     . exact hO.begun i' j a c hij ha' hcj hq
theorem zdg {ss : List Span} : ∀ (r : List Span) (i old : Nat), ss.drop i = r -> old < ss.length -> (∀ (k : Nat) (s : Span), k < i -> ss[k]? = some s -> (ss.getD old (0, 0)).2 ≤ s.2) ->
 ∀ (k : Nat) (s : Span), ss[k]? = some s -> (ss.getD (hiGo ss i old r) (0, 0)).2 ≤ s.2
 | [], i, old, hd, ho, h, k, s, hk => by
   have : ss.length ≤ i := by
    have := congrArg List.length hd
    simp at this
    omega
   exact h k s (by have := (List.getElem?_eq_some_iff.1 hk).1; omega) hk
 | a :: r, i, old, hd, ho, h, k, s, hk => by
   have ha : ss[i]? = some a := by
    have : (ss.drop i)[0]? = some a := by rw [hd]; rfl
    simpa using this
   have hd' : ss.drop (i + 1) = r := by
    have : (ss.drop i).drop 1 = r := by rw [hd]; rfl
    simpa [List.drop_drop, Nat.add_comm] using this
   have hga : ss.getD i (0, 0) = a := by rw [List.getD_eq_getElem?_getD, ha]; rfl
   unfold hiGo
   by_cases hc : a.2 < (ss.getD old (0, 0)).2
   . rw [if_pos hc]
     refine zdg r (i + 1) i hd' (List.getElem?_eq_some_iff.1 ha).1 (fun k s hk1 hks => ?_) k s hk
     rw [hga]
     by_cases hki : k = i
     . subst hki; rw [ha] at hks; cases hks; exact Int.le_refl _
     . have := h k s (by omega) hks; omega
   . rw [if_neg hc]
     refine zdg r (i + 1) old hd' ho (fun k s hk1 hks => ?_) k s hk
     by_cases hki : k = i
     . subst hki; rw [ha] at hks; cases hks; omega
     . exact h k s (by omega) hks
theorem zhe {f : List Bk} (h : zc f = true) {m : Nat} (hm : Xa f = m) {b : Bk} (hb : f[m]? = some b) : ∀ c ∈ f, most b ≤ most c := by
 have hl := zf h
 unfold Xa at hm
 rw [if_pos h, zgk h] at hm
 have hm' : hiGo (f.map spn) 0 0 (f.map spn) = m := by omega
 intro c hc
 obtain ⟨k, hk⟩ := List.mem_iff_getElem?.1 hc
 have := zdg (ss := f.map spn) (f.map spn) 0 0 rfl (by simp; omega) (fun k s hk => by omega) k (spn c) (by rw [List.getElem?_map, hk]; rfl)
 rw [hm', List.getD_eq_getElem?_getD, List.getElem?_map, hb] at this
 exact this
end
section
def Wr (b : Bk) (r : Rc) : Prop := ∃ p ∈ b.pages, p.state = 1 ∧ p.rc = r
def Has (f : List Bk) (r : Rc) : Prop := ∃ b ∈ f, Wr b r
theorem K9 {b : Bk} {r : Rc} (h : Wr b r) : r.seq ∈ xd b.pages := by
 obtain ⟨p, hp, h1, rfl⟩ := h
 exact Xr.2 ⟨p, hp, h1, rfl⟩
theorem zop {f : List Bk} (h : zc f = true) {r : Rc} (hr : Has f r) : xk r = true := by
 obtain ⟨b, hb, p, hp, h1, rfl⟩ := hr
 exact xl ((xb h hb).2.2.2 p hp) h1
theorem zg2 {f : List Bk} (h : zc f = true) {r : Rc} (hr : Has f r) : 1 ≤ r.seq := by
 have := xw (zop h hr); omega
theorem zaa (a : Int) : ∀ (ps : List Pg) (o : Rc), o.seq ≤ (xp a o ps).seq ∧ (∀ p ∈ ps, p.state = 1 -> p.rc.addr = a -> p.rc.seq ≤ (xp a o ps).seq) ∧ (xp a o ps = o ∨ ∃ p ∈ ps, p.state = 1 ∧ p.rc.addr = a ∧ p.rc = xp a o ps)
 | [], o => ⟨Int.le_refl _, fun p hp => (by cases hp), .inl rfl⟩
 | p :: ps, o => by
   obtain ⟨i1, i2, i3⟩ := zaa a ps (zv a o p)
   have he : xp a o (p :: ps) = xp a (zv a o p) ps := rfl
   rw [he]
   have hs : zv a o p = o ∨ (p.state = 1 ∧ p.rc.addr = a ∧ o.seq < p.rc.seq ∧ zv a o p = p.rc) := by
    unfold zv
    split
    . rename_i h; exact .inr ⟨h.1, h.2.1, h.2.2, rfl⟩
    . exact .inl rfl
   have hle : o.seq ≤ (zv a o p).seq := by
    rcases hs with hs | ⟨_, _, h3, hs⟩
    . rw [hs]; exact Int.le_refl _
    . rw [hs]; omega
   refine ⟨by omega, fun q hq h1 h2 => ?_, ?_⟩
   . rcases List.mem_cons.1 hq with rfl | hq
     . have : q.rc.seq ≤ (zv a o q).seq := by
        unfold zv
        split
        . exact Int.le_refl _
        . rename_i hn
          have : ¬ o.seq < q.rc.seq := fun e => hn ⟨h1, h2, e⟩
          omega
       omega
     . exact i2 q hq h1 h2
   . rcases i3 with i3 | ⟨q, hq, q1, q2, q3⟩
     . rcases hs with hs | ⟨h1, h2, _, hs⟩
       . exact .inl (i3.trans hs)
       . exact .inr ⟨p, List.mem_cons_self .., h1, h2, (i3.trans hs).symm⟩
     . exact .inr ⟨q, List.mem_cons_of_mem _ hq, q1, q2, q3⟩
theorem J4 (a : Int) : ∀ (f : List Bk) (o : Rc), o.seq ≤ (f.foldl (fun o b => xp a o b.pages) o).seq ∧ (∀ r, Has f r -> r.addr = a -> r.seq ≤ (f.foldl (fun o b => xp a o b.pages) o).seq) ∧
 (f.foldl (fun o b => xp a o b.pages) o = o ∨ (Has f (f.foldl (fun o b => xp a o b.pages) o) ∧ (f.foldl (fun o b => xp a o b.pages) o).addr = a))
 | [], o => ⟨Int.le_refl _, fun r hr => (by obtain ⟨b, hb, _⟩ := hr; cases hb), .inl rfl⟩
 | b :: f, o => by
   obtain ⟨p1, p2, p3⟩ := zaa a b.pages o
   obtain ⟨i1, i2, i3⟩ := J4 a f (xp a o b.pages)
   rw [List.foldl_cons]
   refine ⟨by omega, fun r hr h => ?_, ?_⟩
   . obtain ⟨c, hc, p, hp, q1, rfl⟩ := hr
     rcases List.mem_cons.1 hc with rfl | hc
     . have := p2 p hp q1 h; omega
     . exact i2 p.rc ⟨c, hc, p, hp, q1, rfl⟩ h
   . rcases i3 with i3 | ⟨⟨c, hc, hw⟩, i4⟩
     . rcases p3 with p3 | ⟨p, hp, q1, q2, q3⟩
       . exact .inl (i3.trans p3)
       . refine .inr ⟨⟨b, List.mem_cons_self .., p, hp, q1, ?_⟩, ?_⟩
         . rw [i3]; exact q3
         . rw [i3, ← q3]; exact q2
     . exact .inr ⟨⟨c, List.mem_cons_of_mem _ hc, hw⟩, i4⟩
theorem Z5 {f : List Bk} {r : Rc} (hr : Has f r) : r.seq ≤ (last f r.addr).seq := (J4 r.addr f rc0).2.1 r hr rfl
theorem Y9 (f : List Bk) (a : Int) : last f a = rc0 ∨ (Has f (last f a) ∧ (last f a).addr = a) := (J4 a f rc0).2.2
theorem zc8 {f : List Bk} {a : Int} (h : 0 < (last f a).seq) : Has f (last f a) ∧ (last f a).addr = a := by
 rcases Y9 f a with e | e
 . rw [e] at h; exact absurd h (by decide)
 . exact e
theorem zes {α β : Type} {g : α -> β} : ∀ {l : List α}, (l.map g).Nodup -> ∀ {x y : α}, x ∈ l -> y ∈ l -> g x = g y -> x = y
 | [], _, x, y, hx, _, _ => by cases hx
 | a :: l, hn, x, y, hx, hy, he => by
   rw [List.map_cons, List.nodup_cons] at hn
   rcases List.mem_cons.1 hx with ex | hx' <;> rcases List.mem_cons.1 hy with ey | hy'
   . rw [ex, ey]
   . rw [ex] at he
     exact absurd (List.mem_map.2 ⟨y, hy', he.symm⟩) hn.1
   . rw [ey] at he
     exact absurd (List.mem_map.2 ⟨x, hx', he⟩) hn.1
   . exact zes hn.2 hx' hy' he
theorem zbn : ∀ {f : List Bk}, (x8 f).Nodup -> ∀ b ∈ f, (xd b.pages).Nodup
 | [], _, b, hb => by cases hb
 | c :: f, hn, b, hb => by
   rw [show x8 (c :: f) = xd c.pages ++ x8 f from by simp [x8], List.nodup_append] at hn
   rcases List.mem_cons.1 hb with rfl | hb
   . exact hn.1
   . exact zbn hn.2.1 b hb
theorem zod {f : List Bk} (h : zc f = true) {i j : Nat} {b c : Bk} {r q : Rc} (hb : f[i]? = some b) (hc : f[j]? = some c) (hr : Wr b r) (hq : Wr c q) (he : r.seq = q.seq) : i = j ∧ r = q := by
 have hn := ((jm f).1 h).2.2
 have hij : i = j := by
  by_cases hij : i = j
  . exact hij
  . exact absurd (he ▸ K9 hq) (yk hn hij hb hc (K9 hr))
 subst hij
 rw [hb, Option.some.injEq] at hc
 subst hc
 refine ⟨rfl, ?_⟩
 obtain ⟨p, hp, p1, rfl⟩ := hr
 obtain ⟨p', hp', p1', rfl⟩ := hq
 have hnb := zbn hn b (List.mem_of_getElem? hb)
 unfold xd at hnb
 have := zes hnb (List.mem_filter.2 ⟨hp, by simpa using p1⟩) (List.mem_filter.2 ⟨hp', by simpa using p1'⟩) he
 rw [this]
theorem zpe {f : List Bk} (h : zc f = true) {r q : Rc} (hr : Has f r) (hq : Has f q) (he : r.seq = q.seq) : r = q := by
 obtain ⟨b, hb, hr⟩ := hr
 obtain ⟨c, hc, hq⟩ := hq
 obtain ⟨i, hi⟩ := List.mem_iff_getElem?.1 hb
 obtain ⟨j, hj⟩ := List.mem_iff_getElem?.1 hc
 exact (zod h hi hj hr hq he).2
theorem zg0 {f : List Bk} (h : zc f = true) {r : Rc} (hr : Has f r) (hm : ∀ q, Has f q -> q.addr = r.addr -> q.seq ≤ r.seq) : last f r.addr = r := by
 have h1 := Z5 hr
 have h2 := zg2 h hr
 obtain ⟨h3, h4⟩ := zc8 (f := f) (a := r.addr) (by omega)
 have h5 := hm _ h3 h4
 exact zpe h h3 hr (by omega)
theorem J3 {f : List Bk} {a : Int} (h : ∀ r, Has f r -> r.addr ≠ a) : last f a = rc0 := by
 rcases Y9 f a with e | e
 . exact e
 . exact absurd e.2 (h _ e.1)
theorem zbv {f g : List Bk} (hf : zc f = true) (hg : zc g = true) {a : Int} (h : ∀ r, r.addr = a -> (Has f r ↔ Has g r)) : last g a = last f a := by
 rcases Y9 f a with e | ⟨e1, e2⟩
 . rw [e]
   refine J3 fun r hr ha => ?_
   have h1 := (h r ha).2 hr
   have h2 := Z5 h1
   have h3 := zg2 hf h1
   rw [ha, e] at h2
   have : rc0.seq = 0 := rfl
   omega
 . have h1 := (h _ e2).1 e1
   have := zg0 hg h1 (fun q hq ha => by
    have h3 := (h q (ha.trans e2)).2 hq
    have := Z5 h3
    rwa [ha, e2] at this)
   rwa [e2] at this
theorem zps {f : List Bk} (h : zc f = true) {b : Bk} (hb : b ∈ f) {r : Rc} (hr : xk r = true) (torn : Bool) (hc : clean b ≠ 0) (x : Rc) : Wr (jf b r torn) x ↔ (torn = false ∧ x = r) ∨ Wr b x := by
 obtain ⟨l4, _, hs, hbp⟩ := xb h hb
 obtain ⟨_, ⟨p, hp, hp0⟩, _⟩ := zeh l4 hs (zhx hr torn).2 hc
 have hk := (List.getElem?_eq_some_iff.1 hp).1
 unfold jf
 constructor
 . rintro ⟨q, hq, q1, rfl⟩
   dsimp only at hq
   obtain ⟨j, hj⟩ := List.mem_iff_getElem?.1 hq
   rcases getElem?_set_cases hj with ⟨_, rfl⟩ | ⟨_, hj⟩
   . cases torn
     . exact .inl ⟨rfl, rfl⟩
     . exact absurd q1 (by show ¬ (2 : Int) = 1; decide)
   . exact .inr ⟨q, List.mem_of_getElem? hj, q1, rfl⟩
 . rintro (⟨rfl, rfl⟩ | ⟨q, hq, q1, rfl⟩)
   . exact ⟨⟨1, x⟩, List.mem_iff_getElem?.2 ⟨_, List.getElem?_set_self hk⟩, rfl, rfl⟩
   . obtain ⟨j, hj⟩ := List.mem_iff_getElem?.1 hq
     have hne : 4 - b.pages.countP xm ≠ j := fun e => by
      rw [← e, hp, Option.some.injEq] at hj
      rw [hj] at hp0
      omega
     exact ⟨q, List.mem_iff_getElem?.2 ⟨j, by show (b.pages.set (4 - b.pages.countP xm) (znc r torn))[j]? = _; rw [List.getElem?_set_ne hne]; exact hj⟩, q1, rfl⟩
theorem zdi {f : List Bk} (h : zc f = true) {i : Nat} {b : Bk} (hb : f[i]? = some b) {r : Rc} (hr : xk r = true) (torn : Bool) (hc : clean b ≠ 0) (x : Rc) : Has (f.set i (jf b r torn)) x ↔ (torn = false ∧ x = r) ∨ Has f x := by
 have hw := zps h (List.mem_of_getElem? hb) hr torn hc x
 have hi := (List.getElem?_eq_some_iff.1 hb).1
 constructor
 . rintro ⟨c, hc', hx⟩
   obtain ⟨j, hj⟩ := List.mem_iff_getElem?.1 hc'
   rcases getElem?_set_cases hj with ⟨_, rfl⟩ | ⟨_, hj⟩
   . rcases hw.1 hx with hx | hx
     . exact .inl hx
     . exact .inr ⟨b, List.mem_of_getElem? hb, hx⟩
   . exact .inr ⟨c, List.mem_of_getElem? hj, hx⟩
 . rintro (hx | ⟨c, hc', hx⟩)
   . exact ⟨_, List.mem_iff_getElem?.2 ⟨i, List.getElem?_set_self hi⟩, hw.2 (.inl hx)⟩
   . obtain ⟨j, hj⟩ := List.mem_iff_getElem?.1 hc'
     by_cases hij : i = j
     . subst hij
       rw [hb, Option.some.injEq] at hj
       subst hj
       exact ⟨_, List.mem_iff_getElem?.2 ⟨i, List.getElem?_set_self hi⟩, hw.2 (.inr hx)⟩
     . exact ⟨c, List.mem_iff_getElem?.2 ⟨j, by rw [List.getElem?_set_ne hij]; exact hj⟩, hx⟩
theorem zlp {f : List Bk} (h : zc f = true) {s : Int} (hs : ∀ c ∈ f, most c < s) {x : Rc} (hx : Has f x) : x.seq < s := by
 obtain ⟨c, hc, hw⟩ := hx
 have := y5 (xb h hc).2.2.2 (K9 hw)
 have := hs c hc
 omega
theorem Jf {f : List Bk} (h : zc f = true) {s : Int} (hs : ∀ c ∈ f, most c < s) : qd f s ≠ true := fun e => by
 obtain ⟨c, hc, hq⟩ := Jg.1 (zek.1 e)
 have := y5 (xb h hc).2.2.2 hq
 have := hs c hc
 omega
theorem zni {f : List Bk} (h : zc f = true) {i : Nat} {b : Bk} (hb : f[i]? = some b) {r : Rc} (hr : xk r = true) (hc : clean b ≠ 0) (hs : ∀ c ∈ f, most c < r.seq) (a : Int) :
 last (f.set i (jf b r false)) a = if a = r.addr then r else last f a := by
 have hok := zc1 h hb hr false hc (Jf h hs)
 by_cases ha : a = r.addr
 . rw [if_pos ha, ha]
   refine zg0 hok ((zdi h hb hr false hc r).2 (.inl ⟨rfl, rfl⟩)) fun q hq _ => ?_
   rcases (zdi h hb hr false hc q).1 hq with ⟨_, rfl⟩ | hq
   . exact Int.le_refl _
   . have := zlp h hs hq; omega
 . rw [if_neg ha]
   refine zbv h hok fun x hx => ?_
   rw [zdi h hb hr false hc x]
   constructor
   . exact .inr
   . rintro (⟨_, rfl⟩ | hx')
     . exact absurd hx.symm ha
     . exact hx'
theorem zlj {f : List Bk} (h : zc f = true) {i : Nat} {b : Bk} (hb : f[i]? = some b) {r : Rc} (hr : xk r = true) (hc : clean b ≠ 0) (hs : ∀ c ∈ f, most c < r.seq) (a : Int) :
 last (f.set i (jf b r true)) a = last f a := by
 have hok := zc1 h hb hr true hc (Jf h hs)
 refine zbv h hok fun x hx => ?_
 rw [zdi h hb hr true hc x]
 simp
theorem Qb {f : List Bk} {i : Nat} (hi : i < f.length) (torn : Bool) (x : Rc) : Has (wipe f i torn) x ↔ ∃ (j : Nat) (c : Bk), j ≠ i ∧ f[j]? = some c ∧ Wr c x := by
 constructor
 . rintro ⟨c, hc, hx⟩
   obtain ⟨j, hj⟩ := List.mem_iff_getElem?.1 hc
   unfold wipe at hj
   rcases getElem?_set_cases hj with ⟨_, rfl⟩ | ⟨hne, hj⟩
   . obtain ⟨p, hp, p1, _⟩ := hx
     dsimp only at hp
     rw [List.mem_replicate] at hp
     rw [hp.2] at p1
     cases torn
     . exact absurd p1 (by show ¬ (0 : Int) = 1; decide)
     . exact absurd p1 (by show ¬ (2 : Int) = 1; decide)
   . exact ⟨j, c, hne, hj, hx⟩
 . rintro ⟨j, c, hne, hj, hx⟩
   exact ⟨c, List.mem_iff_getElem?.2 ⟨j, by rw [zj9 hne]; exact hj⟩, hx⟩
theorem zqr {f : List Bk} (h : zc f = true) (hO : Ord f) {i j : Nat} {b c : Bk} (hij : j ≠ i) (hb : f[i]? = some b) (hc : f[j]? = some c) (hmin : ∀ d ∈ f, most b ≤ most d) {r q : Rc} (hr : Wr b r) (hq : Wr c q) : r.seq < q.seq := by
 have pb := (xb h (List.mem_of_getElem? hb)).2.2.2
 have pc := (xb h (List.mem_of_getElem? hc)).2.2.2
 have b1 := y5 pb (K9 hr)
 have b2 := Kb pb (K9 hr)
 have c1 := y5 pc (K9 hq)
 have c2 := Kb pc (K9 hq)
 have p1 := (Kq pb (K9 hr)).1
 have p2 := (Kq pc (K9 hq)).1
 have h1 := hO.apart i j b c (Ne.symm hij) hb hc (by omega) (by omega)
 have h2 := hmin c (List.mem_of_getElem? hc)
 have hne : r.seq ≠ q.seq := fun e => hij (zod h hb hc hr hq e).1.symm
 have h3 : most b ≠ most c := fun e => yk ((jm f).1 h).2.2 (Ne.symm hij) hb hc (yb pb (by omega)) (e ▸ yb pc (by omega))
 have h4 := Zt pb (by omega)
 have h5 := Zt pc (by omega)
 have h6 : jo c ≠ most b := fun e => yk ((jm f).1 h).2.2 (Ne.symm hij) hb hc (yb pb (by omega)) (e ▸ qr pc (by omega))
 by_cases h7 : jo c < most b
 . exact absurd ⟨by omega, h7⟩ h1
 . omega
theorem zli {f : List Bk} (h : zc f = true) (hO : Ord f) {i : Nat} {b : Bk} (hb : f[i]? = some b) (hmin : ∀ d ∈ f, most b ≤ most d) (hw : b.worn ≠ 200) (torn : Bool) (a : Int) :
 (Wr b (last f a) -> last (wipe f i torn) a = rc0) ∧ (¬ Wr b (last f a) -> last (wipe f i torn) a = last f a) := by
 have hi := (List.getElem?_eq_some_iff.1 hb).1
 have hok := Y7 h (by rw [zf h] at hi; exact hi) torn (by rw [ye hb]; exact hw)
 constructor
 . intro hl
   refine J3 fun x hx ha => ?_
   obtain ⟨j, c, hne, hj, hx⟩ := (Qb hi torn x).1 hx
   have h1 := zqr h hO hne hb hj hmin hl hx
   have h2 := Z5 (f := f) ⟨c, List.mem_of_getElem? hj, hx⟩
   rw [ha] at h2
   omega
 . intro hl
   rcases Y9 f a with e | ⟨⟨c, hc, hx⟩, e2⟩
   . rw [e]
     refine J3 fun x hx ha => ?_
     obtain ⟨j, c, hne, hj, hx⟩ := (Qb hi torn x).1 hx
     have hh : Has f x := ⟨c, List.mem_of_getElem? hj, hx⟩
     have h2 := Z5 hh
     have h3 := zg2 h hh
     rw [ha, e] at h2
     have : rc0.seq = 0 := rfl
     omega
   . obtain ⟨j, hj⟩ := List.mem_iff_getElem?.1 hc
     have hne : j ≠ i := by
      rintro rfl
      rw [hb, Option.some.injEq] at hj
      subst hj
      exact hl hx
     have := zg0 hok ((Qb hi torn _).2 ⟨j, c, hne, hj, hx⟩) (fun q hq ha => by
      obtain ⟨j', c', _, hj', hq⟩ := (Qb hi torn q).1 hq
      have := Z5 (f := f) ⟨c', List.mem_of_getElem? hj', hq⟩
      rwa [ha, e2] at this)
     rwa [e2] at this
end
section
theorem Ki {f : List Bk} : ∀ (xs : List Int) (i : Nat), qc f i xs = true ↔ ∀ (k : Nat) (v : Int), xs[k]? = some v -> valB v = true ∧ ¬ Xe f (i + k) v
 | [], i => by simp [qc]
 | x :: xs, i => by
   unfold qc
   constructor
   . intro h k v hk
     split at h
     . rename_i h1
       split at h
       . cases h
       . rename_i h2
         cases k with
         | zero => rw [List.getElem?_cons_zero, Option.some.injEq] at hk; subst hk; exact ⟨h1, h2⟩
         | succ k =>
           have := (Ki xs (i + 1)).1 h k v (by simpa using hk)
           rwa [show i + 1 + k = i + (k + 1) by omega] at this
     . cases h
   . intro h
     have h0 := h 0 x rfl
     rw [if_pos h0.1, if_neg (by simpa using h0.2)]
     refine (Ki xs (i + 1)).2 fun k v hk => ?_
     have := h (k + 1) v (by simpa using hk)
     rwa [show i + (k + 1) = i + 1 + k by omega] at this
def dk (s : St) (a : Int) : Int := s.disk.getD (a - 1).toNat 0
structure Okay (s : St) : Prop where
 len : s.disk.length = 6
 ord : xf s.flash = true
 val : ∀ a : Int, 1 ≤ a -> a ≤ 6 -> valB (dk s a) = true
 agree : ∀ a : Int, 1 ≤ a -> a ≤ 6 -> 0 < (last s.flash a).seq -> (last s.flash a).kind = 2 -> (last s.flash a).val = dk s a
theorem zor {s : St} (h6 : s.disk.length = 6) {a : Int} (h1 : 1 ≤ a) (h2 : a ≤ 6) : s.disk[(a - 1).toNat]? = some (dk s a) := by
 obtain ⟨v, hv⟩ := zd (l := s.disk) (k := (a - 1).toNat) (by omega)
 unfold dk
 rw [List.getD_eq_getElem?_getD, hv]; rfl
theorem zqs {s : St} {k : Nat} {v : Int} (h : s.disk[k]? = some v) : dk s ((k : Int) + 1) = v := by
 unfold dk
 rw [show ((k : Int) + 1 - 1).toNat = k by omega, List.getD_eq_getElem?_getD, h]; rfl
theorem xx {s : St} : xg s = true ↔ Okay s := by
 constructor
 . intro h
   obtain ⟨h6, ho, hd⟩ := zco h
   have hd' := (Ki s.disk 0).1 hd
   refine ⟨h6, ho, fun a h1 h2 => (hd' _ _ (zor h6 h1 h2)).1, fun a h1 h2 h3 h4 => ?_⟩
   have := (hd' _ _ (zor h6 h1 h2)).2
   unfold Xe at this
   rw [show ((0 + (a - 1).toNat : Nat) : Int) + 1 = a by omega] at this
   by_cases he : (last s.flash a).val = dk s a
   . exact he
   . exact absurd ⟨h3, h4, he⟩ this
 . intro h
   unfold xg
   rw [if_pos h.len, if_pos h.ord]
   refine (Ki s.disk 0).2 fun k v hk => ?_
   have hk6 : k < 6 := by rw [← h.len]; exact (List.getElem?_eq_some_iff.1 hk).1
   have e := zqs hk
   have h1 := h.val ((k : Int) + 1) (by omega) (by omega)
   have h2 := h.agree ((k : Int) + 1) (by omega) (by omega)
   rw [e] at h1 h2
   refine ⟨h1, ?_⟩
   unfold Xe
   rw [Nat.zero_add]
   rintro ⟨h3, h4, h5⟩
   exact h5 (h2 h3 h4)
theorem j0 (s : St) (a : Int) : xh s a = if 0 < (last s.flash a).seq then (last s.flash a).val else dk s a := rfl
def Same (s t : St) : Prop := ∀ a : Int, 1 ≤ a -> a ≤ 6 -> xh t a = xh s a
theorem Same.refl (s : St) : Same s s := fun _ _ _ => rfl
theorem Same.trans {s t u : St} (h : Same s t) (k : Same t u) : Same s u := fun a h1 h2 => (k a h1 h2).trans (h a h1 h2)
theorem Okay.flash {s : St} (h : Okay s) : zc s.flash = true := zh0 h.ord
theorem Okay.isOrd {s : St} (h : Okay s) : Ord s.flash := (Zp h.flash).1 h.ord
theorem Yw {s : St} (h6 : s.disk.length = 6) {a b v : Int} (h1 : 1 ≤ a) (h2 : a ≤ 6) (h3 : 1 ≤ b) : dk ⟨s.flash, s.disk.set (a - 1).toNat v⟩ b = if b = a then v else dk s b := by
 unfold dk
 rw [List.getD_eq_getElem?_getD, List.getD_eq_getElem?_getD]
 by_cases hb : b = a
 . subst hb
   rw [if_pos rfl, List.getElem?_set_self (by omega)]; rfl
 . rw [if_neg hb, List.getElem?_set_ne (by omega)]
theorem zkp {s : St} (h : Okay s) {a v : Int} (h1 : 1 ≤ a) (h2 : a ≤ 6) (hv : valB v = true) (hl : 0 < (last s.flash a).seq) (hk : (last s.flash a).kind = 1) :
 Okay ⟨s.flash, s.disk.set (a - 1).toNat v⟩ ∧ Same s ⟨s.flash, s.disk.set (a - 1).toNat v⟩ := by
 refine ⟨⟨by rw [List.length_set]; exact h.len, h.ord, fun b b1 b2 => ?_, fun b b1 b2 b3 b4 => ?_⟩, fun b b1 b2 => ?_⟩
 . rw [Yw h.len h1 h2 b1]
   split
   . exact hv
   . exact h.val b b1 b2
 . dsimp only at b3 b4 ⊢
   rw [Yw h.len h1 h2 b1]
   split
   . rename_i e; subst e; omega
   . exact h.agree b b1 b2 b3 b4
 . rw [j0, j0, Yw h.len h1 h2 b1]
   dsimp only
   by_cases e : b = a
   . subst e; rw [if_pos hl, if_pos hl]
   . rw [if_neg e]
def Safe (K E : St -> Prop) : St -> List Sp -> Prop
 | s, [] => E s
 | s, x :: xs => K s ∧ K (zr s x true) ∧ Safe K E (zr s x false) xs
theorem Safe.mono {K E K' E' : St -> Prop} (hK : ∀ s, K s -> K' s) (hE : ∀ s, E s -> E' s) : ∀ {xs : List Sp} {s : St}, Safe K E s xs -> Safe K' E' s xs
 | [], _, h => hE _ h
 | _ :: _, _, h => ⟨hK _ h.1, hK _ h.2.1, Safe.mono hK hE h.2.2⟩
theorem Safe.append {K E : St -> Prop} {ys : List Sp} : ∀ {xs : List Sp} {s : St}, Safe K (fun t => Safe K E t ys) s xs -> Safe K E s (xs ++ ys)
 | [], _, h => h
 | _ :: _, _, h => ⟨h.1, h.2.1, Safe.append h.2.2⟩
theorem zmf {s : St} {x : Sp} {xs : List Sp} {n : Nat} {torn : Bool} : doTo s (x :: xs) ((n + 1 : Nat) : Int) torn = doTo (zr s x false) xs n torn := by
 unfold doTo
 rw [show (((n + 1 : Nat) : Int)).toNat = n + 1 by omega, Int.toNat_natCast, List.take_succ_cons]
 have hd : zt s (x :: xs.take n) = zt (zr s x false) (xs.take n) := rfl
 rw [hd]
 by_cases hc : torn = true ∧ (0 : Int) ≤ ((n + 1 : Nat) : Int) ∧ ((n + 1 : Nat) : Int) < ((x :: xs).length : Nat)
 . rw [if_pos hc, if_pos ⟨hc.1, by omega, by have := hc.2.2; rw [List.length_cons] at this; omega⟩, List.getD_cons_succ]
 . rw [if_neg hc, if_neg (fun e => hc ⟨e.1, by omega, by rw [List.length_cons]; omega⟩)]
theorem zmd {s : St} {x : Sp} {xs : List Sp} {cut : Int} (h : cut.toNat = 0) {torn : Bool} : doTo s (x :: xs) cut torn = s ∨ doTo s (x :: xs) cut torn = zr s x true := by
 unfold doTo
 rw [h]
 split
 . exact .inr rfl
 . exact .inl rfl
theorem Safe.to {K E : St -> Prop} : ∀ {xs : List Sp} {s : St}, Safe K E s xs -> ∀ (cut : Int) (torn : Bool), (xs.length ≤ cut.toNat -> E (doTo s xs cut torn)) ∧ (cut.toNat < xs.length -> K (doTo s xs cut torn))
 | [], s, h, cut, torn => by
   have he : doTo s [] cut torn = s := by
    unfold doTo
    rw [if_neg (by rintro ⟨_, h1, h2⟩; simp at h2; omega)]
    simp [zt]
   rw [he]
   exact ⟨fun _ => h, fun hc => by simp at hc⟩
 | x :: xs, s, h, cut, torn => by
   by_cases h0 : cut.toNat = 0
   . refine ⟨fun hl => by rw [h0] at hl; simp at hl, fun _ => ?_⟩
     rcases zmd (s := s) (x := x) (xs := xs) h0 (torn := torn) with e | e
     . rw [e]; exact h.1
     . rw [e]; exact h.2.1
   . obtain ⟨n, hn⟩ : ∃ n : Nat, cut = ((n + 1 : Nat) : Int) := ⟨cut.toNat - 1, by omega⟩
     subst hn
     rw [zmf]
     have := h.2.2.to n torn
     rw [Int.toNat_natCast] at this
     rw [Int.toNat_natCast, List.length_cons]
     exact ⟨fun hl => this.1 (by omega), fun hl => this.2 (by omega)⟩
theorem zc5 {f : List Bk} : ∀ (r : List Bk) (i out : Nat), hiGo (f.map spn) i out (r.map spn) = Kk f i out r
 | [], _, _ => rfl
 | b :: r, i, out => by
   have he : ((f.map spn).getD out (0, 0)).2 = most (f.getD out zbk) := by
    rw [List.getD_eq_getElem?_getD, List.getD_eq_getElem?_getD, List.getElem?_map]
    cases f[out]? <;> rfl
   rw [List.map_cons]
   unfold hiGo Kk
   rw [he]
   show (if most b < most (f.getD out zbk) then _ else _) = _
   rw [zc5 r, zc5 r]
theorem zan {f : List Bk} (h : zc f = true) : Xa f = (old f : Nat) := by
 unfold Xa
 rw [if_pos h, zgk h]
 have hl := zf h
 congr 1
 cases f with
 | nil => simp at hl
 | cons b r =>
   unfold old
   rw [List.map_cons]
   show hiGo ((b :: r).map spn) 0 0 (spn b :: r.map spn) = _
   unfold hiGo
   rw [if_neg (by show ¬ most b < most b; omega)]
   exact zc5 r 1 0
theorem zk6 {f : List Bk} (h : zc f = true) {b : Bk} (hb : f[old f]? = some b) : ∀ d ∈ f, most b ≤ most d := zhe h (zan h) hb
def ky (f : List Bk) : Int := f.foldr (fun b n => b.worn + n) 0
theorem Qh : ∀ {f : List Bk} {i : Nat} {b : Bk} (c : Bk), f[i]? = some b -> ky (f.set i c) = ky f + c.worn - b.worn
 | [], _, _, _, h => by simp at h
 | a :: f, 0, b, c, h => by
   rw [List.getElem?_cons_zero, Option.some.injEq] at h
   subst h
   rw [List.set_cons_zero]
   show c.worn + ky f = a.worn + ky f + c.worn - a.worn
   omega
 | a :: f, i + 1, b, c, h => by
   rw [List.getElem?_cons_succ] at h
   rw [List.set_cons_succ]
   show a.worn + ky (f.set i c) = a.worn + ky f + c.worn - b.worn
   rw [Qh c h]
   omega
theorem zdx {b : Bk} : ∀ {f : List Bk}, (∀ c ∈ f, 0 ≤ c.worn) -> b ∈ f -> b.worn ≤ ky f
 | [], _, h => by cases h
 | a :: f, hp, h => by
   have h0 : ∀ {g : List Bk}, (∀ c ∈ g, 0 ≤ c.worn) -> 0 ≤ ky g := by
    intro g
    induction g with
    | nil => intro _; exact Int.le_refl _
    | cons c g ih =>
      intro hg
      have h1 := hg c (List.mem_cons_self ..)
      have h2 := ih fun d hd => hg d (List.mem_cons_of_mem _ hd)
      show 0 ≤ c.worn + ky g
      omega
   show b.worn ≤ a.worn + ky f
   have hpf := fun c hc => hp c (List.mem_cons_of_mem _ hc)
   rcases List.mem_cons.1 h with rfl | h
   . have := h0 hpf; omega
   . have := zdx hpf h
     have := hp a (List.mem_cons_self ..)
     omega
theorem zk8 {f g : List Bk} (h : ∀ c ∈ g, most c < next f) (h0 : 1 ≤ next f) : next g ≤ next f := by
 have : y8 g ≤ next f - 1 := Ja (by omega) (fun b hb => by have := h b hb; omega)
 unfold next at *
 omega
theorem Z3 (f : List Bk) : 1 ≤ next f := by have := J1 (f := f) (n := 0); unfold next y8; omega
structure Mid (s t : St) : Prop where
 ok : Okay t
 same : Same s t
 nx : next t.flash ≤ next s.flash
 wear : ky t.flash ≤ ky s.flash + 1
 drt : ∀ b, xq t.flash b = true -> xq s.flash b = true
 dsk : ∀ c : Int, 1 ≤ c -> c ≤ 6 -> dk t c = dk s c ∨ dk t c = xh s c
theorem Mid.refl {s : St} (h : Okay s) : Mid s s := ⟨h, Same.refl s, Int.le_refl _, by omega, fun _ h => h, fun _ _ _ => .inl rfl⟩
structure Fin (s : St) (k a v : Int) (t : St) : Prop where
 ok : Okay t
 read : ∀ b : Int, 1 ≤ b -> b ≤ 6 -> xh t b = if b = a then v else xh s b
 rec_ : last t.flash a = ⟨k, next s.flash, a, v⟩
 nx : next t.flash ≤ next s.flash + 1
 wear : ky t.flash ≤ ky s.flash + 1
 drt : ∀ b, b ≠ a -> xq t.flash b = true -> xq s.flash b = true
 dsk : ∀ c : Int, 1 ≤ c -> c ≤ 6 -> dk t c = dk s c ∨ dk t c = xh s c
def Told (s t : St) : Prop := Mid s t ∧ t.flash = s.flash ∧ ∀ c : Int, 1 ≤ c -> c ≤ 6 -> dk t c = dk s c ∨ dk t c = xh s c
theorem Qn {f : List Bk} (h : zc f = true) {b : Bk} (hb : b ∈ f) {p : Pg} (hp : p ∈ b.pages) (ht : told f p = true) :
 (1 ≤ p.rc.addr ∧ p.rc.addr ≤ 6) ∧ valB p.rc.val = true ∧ last f p.rc.addr = p.rc ∧ 0 < p.rc.seq ∧ p.rc.kind = 1 := by
 unfold told live at ht
 rw [Bool.and_eq_true, Bool.and_eq_true, decide_eq_true_iff, decide_eq_true_iff, decide_eq_true_iff] at ht
 obtain ⟨⟨h1, h2⟩, h3⟩ := ht
 have hr := xw (xl ((xb h hb).2.2.2 p hp) h1)
 exact ⟨⟨by omega, by omega⟩, by unfold valB; simp; omega, h2, by omega, h3⟩
theorem zbg {s0 : St} {b : Bk} (h : zc s0.flash = true) (hb : b ∈ s0.flash) : ∀ (ps qs : List Pg) (s : St), (∀ p ∈ ps, p ∈ b.pages ∧ told s0.flash p = true) -> (∀ p ∈ qs, p ∈ b.pages ∧ told s0.flash p = true ∧ dk s p.rc.addr = p.rc.val) -> Told s0 s ->
 Safe (Told s0) (fun t => Told s0 t ∧ ∀ p ∈ qs ++ ps, dk t p.rc.addr = p.rc.val) s (ps.map Zk)
 | [], qs, s, _, hq, hs => ⟨hs, fun p hp => (hq p (by simpa using hp)).2.2⟩
 | p :: ps, qs, s, hp, hq, hs => by
   obtain ⟨hpb, hpt⟩ := hp p (List.mem_cons_self ..)
   obtain ⟨⟨a1, a2⟩, av, al, as_, ak⟩ := Qn h hb hpb hpt
   have hl : last s.flash p.rc.addr = p.rc := by rw [hs.2.1]; exact al
   have ht := zkp hs.1.ok a1 a2 av (by rw [hl]; exact as_) (by rw [hl]; exact ak)
   have hX : ∀ c : Int, 1 ≤ c -> c ≤ 6 -> dk ⟨s.flash, s.disk.set (p.rc.addr - 1).toNat p.rc.val⟩ c = dk s0 c ∨ dk ⟨s.flash, s.disk.set (p.rc.addr - 1).toNat p.rc.val⟩ c = xh s0 c := fun c c1 c2 => by
    rw [Yw hs.1.ok.len a1 a2 c1]
    split
    . rename_i e
      right
      rw [e, j0, al, if_pos as_]
    . exact hs.2.2 c c1 c2
   have hT : Told s0 ⟨s.flash, s.disk.set (p.rc.addr - 1).toNat p.rc.val⟩ := ⟨⟨ht.1, hs.1.same.trans ht.2, hs.1.nx, hs.1.wear, hs.1.drt, hX⟩, hs.2.1, hX⟩
   have hd : zr s (Zk p) false = ⟨s.flash, s.disk.set (p.rc.addr - 1).toNat p.rc.val⟩ := rfl
   have hdt : zr s (Zk p) true = s := rfl
   rw [List.map_cons]
   refine ⟨hs, by rw [hdt]; exact hs, ?_⟩
   rw [hd]
   have ih := zbg h hb ps (qs ++ [p]) _ (fun q hq' => hp q (List.mem_cons_of_mem _ hq')) (fun q hq' => ?_) hT
   . refine ih.mono (fun _ h => h) fun t ht => ⟨ht.1, fun q hq' => ht.2 q ?_⟩
     simpa using hq'
   . rcases List.mem_append.1 hq' with hq' | hq'
     . obtain ⟨q1, q2, q3⟩ := hq q hq'
       refine ⟨q1, q2, ?_⟩
       obtain ⟨⟨c1, c2⟩, _, cl, _, _⟩ := Qn h hb q1 q2
       rw [Yw hs.1.ok.len a1 a2 c1]
       split
       . rename_i e
         rw [e, al] at cl
         rw [cl]
       . exact q3
     . rw [List.mem_singleton] at hq'
       subst hq'
       exact ⟨hpb, hpt, by rw [Yw hs.1.ok.len a1 a2 a1, if_pos rfl]⟩
theorem zdq {f g : List Bk} {b : Int} (h : last g b = rc0 ∨ last g b = last f b) (hd : xq g b = true) : xq f b = true := by
 unfold xq at hd ⊢
 rcases h with h | h
 . rw [h] at hd
   exact absurd hd (by decide)
 . rwa [← h]
theorem zmu {s t : St} (hT : Told s t) {i : Nat} {b : Bk} (hb : s.flash[i]? = some b) (hmin : ∀ d ∈ s.flash, most b ≤ most d) (hw : b.worn ≠ 200) (hd : ∀ p ∈ b.pages, told s.flash p = true -> dk t p.rc.addr = p.rc.val) (torn : Bool) :
 Mid s ⟨wipe t.flash i torn, t.disk⟩ ∧ (∀ a, last (wipe s.flash i torn) a = rc0 ∨ last (wipe s.flash i torn) a = last s.flash a) := by
 obtain ⟨hM, hf, hX⟩ := hT
 have hok := hM.ok
 rw [hf]
 have hfl := hok.flash
 rw [hf] at hfl
 have hO : Ord s.flash := by have := hok.isOrd; rwa [hf] at this
 have hl := zf hfl
 have hi : i < 4 := by rw [← hl]; exact (List.getElem?_eq_some_iff.1 hb).1
 have hok' := Y7 hfl hi torn (by rw [ye hb]; exact hw)
 have hlast := fun a => zli hfl hO hb hmin hw torn a
 have hnn : ∀ c ∈ s.flash, 0 ≤ most c := fun c hc => Q2 (xb hfl hc).2.2.2
 have hord := (Zp hok').2 (zh1 hO hnn i torn)
 have hcase : ∀ a, last (wipe s.flash i torn) a = rc0 ∨ last (wipe s.flash i torn) a = last s.flash a := fun a => by
  by_cases h : Wr b (last s.flash a)
  . exact .inl ((hlast a).1 h)
  . exact .inr ((hlast a).2 h)
 have hread : ∀ a : Int, 1 ≤ a -> a ≤ 6 -> xh ⟨wipe s.flash i torn, t.disk⟩ a = xh t a := fun a a1 a2 => by
  rw [j0, j0]
  dsimp only
  rw [hf]
  show (if 0 < (last (wipe s.flash i torn) a).seq then (last (wipe s.flash i torn) a).val else dk t a) = _
  by_cases h : Wr b (last s.flash a)
  . rw [(hlast a).1 h, if_neg (by decide)]
    by_cases h0 : 0 < (last s.flash a).seq
    . rw [if_pos h0]
      obtain ⟨h1, h2⟩ := zc8 h0
      rcases Q9 hfl h0 with hk | hk
      . obtain ⟨p, hp, p1, p2⟩ := h
        have ht : told s.flash p = true := by
         unfold told live
         rw [p2, h2, p1, hk]; simp
        have := hd p hp ht
        rw [p2, h2] at this
        exact this
      . have := hok.agree a a1 a2
        rw [hf] at this
        exact (this h0 hk).symm
    . rw [if_neg h0]
  . rw [(hlast a).2 h]
 refine ⟨⟨⟨hok.len, hord, fun a a1 a2 => hok.val a a1 a2, fun a a1 a2 a3 a4 => ?_⟩, fun a a1 a2 => (hread a a1 a2).trans (hM.same a a1 a2), ?_, ?_, fun c hc => zdq (hcase c) hc, fun c c1 c2 => hX c c1 c2⟩, hcase⟩
 . dsimp only at a3 a4 ⊢
   rcases hcase a with e | e
   . rw [e] at a3; exact absurd a3 (by decide)
   . rw [e] at a3 a4 ⊢
     have := hok.agree a a1 a2
     rw [hf] at this
     exact this a3 a4
 . refine zk8 (fun c hc => ?_) (Z3 _)
   dsimp only at hc
   unfold wipe at hc
   rcases y6 hc with hc | rfl
   . exact zd1 hc
   . have h1 := (Jr torn ((s.flash.getD i zbk).worn + 1)).1
     have h2 := Z3 s.flash
     rw [h1]; omega
 . show ky (wipe s.flash i torn) ≤ _
   unfold wipe
   rw [Qh _ hb, ye hb]
   dsimp only
   omega
theorem zdu {s t : St} {k a v : Int} (hok : Okay t) (hsame : Same s t) (hnx : next t.flash ≤ next s.flash) (hwear : ky t.flash ≤ ky s.flash + 1) (hdr : ∀ b, xq t.flash b = true -> xq s.flash b = true) (hX : ∀ c : Int, 1 ≤ c -> c ≤ 6 -> dk t c = dk s c ∨ dk t c = xh s c) {i : Nat} {b : Bk} (hb : t.flash[i]? = some b) (hc : clean b ≠ 0) (hS : Sole t.flash i)
 (hr : xk ⟨k, next s.flash, a, v⟩ = true) (h2 : k = 2 -> dk t a = v) :
 (zr t ⟨3, 0, 0, i, ⟨k, next s.flash, a, v⟩⟩ true = ⟨t.flash.set i (jf b ⟨k, next s.flash, a, v⟩ true), t.disk⟩ ∧ Mid s (zr t ⟨3, 0, 0, i, ⟨k, next s.flash, a, v⟩⟩ true)) ∧
 (zr t ⟨3, 0, 0, i, ⟨k, next s.flash, a, v⟩⟩ false = ⟨t.flash.set i (jf b ⟨k, next s.flash, a, v⟩ false), t.disk⟩ ∧ Fin s k a v (zr t ⟨3, 0, 0, i, ⟨k, next s.flash, a, v⟩⟩ false)) := by
 have hfl := hok.flash
 have hlt : ∀ c ∈ t.flash, most c < (⟨k, next s.flash, a, v⟩ : Rc).seq := fun c hc => by have := zd1 hc; dsimp only; omega
 have hnot := Jf hfl hlt
 have hwr : ∀ torn, xv t.flash i ⟨k, next s.flash, a, v⟩ torn = (t.flash.set i (jf b ⟨k, next s.flash, a, v⟩ torn), true) := fun torn => by
  unfold xv
  rw [ye hb, if_neg (by rintro (e | e); exact hc e; exact hnot e)]
  rfl
 have hstep : ∀ torn, zr t ⟨3, 0, 0, i, ⟨k, next s.flash, a, v⟩⟩ torn = ⟨t.flash.set i (jf b ⟨k, next s.flash, a, v⟩ torn), t.disk⟩ := fun torn => by
  unfold zr
  rw [if_neg (by dsimp only; decide), if_neg (by dsimp only; decide), if_pos rfl]
  dsimp only
  rw [Int.toNat_natCast, hwr]
 have hok4 : ∀ torn, zc (t.flash.set i (jf b ⟨k, next s.flash, a, v⟩ torn)) = true := fun torn => zc1 hfl hb hr torn hc hnot
 have hord : ∀ torn, xf (t.flash.set i (jf b ⟨k, next s.flash, a, v⟩ torn)) = true := fun torn => (Zp (hok4 torn)).2 (zo9 hfl hok.isOrd hb hr torn hc hS hlt)
 have hw : ∀ torn, ky (t.flash.set i (jf b ⟨k, next s.flash, a, v⟩ torn)) = ky t.flash := fun torn => by
  rw [Qh _ hb]
  show ky t.flash + b.worn - b.worn = _
  omega
 have hlt' := zlj hfl hb hr hc hlt
 have hlp := zni hfl hb hr hc hlt
 have hmem := List.mem_of_getElem? hb
 have hmost : ∀ torn, ∀ c ∈ t.flash.set i (jf b ⟨k, next s.flash, a, v⟩ torn), most c ≤ next s.flash ∧ (torn = true -> most c < next s.flash) := fun torn c hcm => by
  rcases y6 hcm with hcm | rfl
  . have := zd1 hcm; exact ⟨by omega, fun _ => by omega⟩
  . obtain ⟨_, kp, _, k4, k5⟩ := Z2 hfl hmem hr torn hc
    have hbp := (xb hfl hmem).2.2.2
    have := hlt b hmem
    dsimp only at this
    cases torn
    . have := (zcu hbp kp (k5 rfl) (hlt b hmem)).1
      exact ⟨by rw [this]; exact Int.le_refl _, fun e => by cases e⟩
    . have := (zef hbp kp (k4 rfl)).1
      exact ⟨by omega, fun _ => by omega⟩
 refine ⟨⟨hstep true, ?_⟩, ⟨hstep false, ?_⟩⟩
 . rw [hstep true]
   refine ⟨⟨hok.len, hord true, fun c c1 c2 => hok.val c c1 c2, fun c c1 c2 c3 c4 => ?_⟩, fun c c1 c2 => ?_, zk8 (fun c hc => (hmost true c hc).2 rfl) (Z3 _), by rw [hw]; exact hwear, fun c hcd => ?_, fun c c1 c2 => hX c c1 c2⟩
   . dsimp only at c3 c4 ⊢
     rw [hlt'] at c3 c4 ⊢
     exact hok.agree c c1 c2 c3 c4
   . rw [← hsame c c1 c2, j0, j0]
     dsimp only
     rw [hlt']; rfl
   . refine hdr c ?_
     unfold xq at hcd ⊢
     dsimp only at hcd
     rwa [hlt'] at hcd
 . rw [hstep false]
   refine ⟨⟨hok.len, hord false, fun c c1 c2 => hok.val c c1 c2, fun c c1 c2 c3 c4 => ?_⟩, fun c c1 c2 => ?_, ?_, ?_, by rw [hw]; exact hwear, fun c hne hcd => ?_, fun c c1 c2 => hX c c1 c2⟩
   . dsimp only at c3 c4 ⊢
     rw [hlp] at c3 c4 ⊢
     by_cases e : c = a
     . rw [if_pos e] at c4 ⊢
       dsimp only at c4 ⊢
       rw [e]
       exact (h2 c4).symm
     . rw [if_neg e] at c3 c4 ⊢
       exact hok.agree c c1 c2 c3 c4
   . rw [j0]
     dsimp only
     rw [hlp]
     by_cases e : c = a
     . rw [if_pos e, if_pos e, if_pos (by have := Z3 s.flash; dsimp only; omega)]
     . rw [if_neg e, if_neg e, ← hsame c c1 c2, j0]; rfl
   . dsimp only
     rw [hlp, if_pos rfl]
   . have : y8 (t.flash.set i (jf b ⟨k, next s.flash, a, v⟩ false)) ≤ next s.flash := Ja (by have := Z3 s.flash; omega) (fun c hc => (hmost false c hc).1)
     show y8 (t.flash.set i (jf b ⟨k, next s.flash, a, v⟩ false)) + 1 ≤ next s.flash + 1
     omega
   . refine hdr c ?_
     unfold xq at hcd ⊢
     dsimp only at hcd
     rwa [hlp, if_neg hne] at hcd
theorem Qx {f : List Bk} (h : zc f = true) (ho : (kz f).2 = false) : ∀ b ∈ f, clean b = 0 := by
 have h4 := fun b hb => (zm h b hb).1
 rw [Ka h4] at ho
 exact zjf h4 ho
theorem zfz {s : St} (h : Okay s) {k a v : Int} (hne : wr s.flash k a v ≠ []) (h2 : k = 2 -> dk s a = v ∧ xh s a = v) : Safe (Mid s) (Fin s k a v) s (wr s.flash k a v) := by
 have hfl := h.flash
 have h4 := fun b hb => (zm hfl b hb).1
 have hl := zf hfl
 unfold wr at hne ⊢
 by_cases hc : (room s.flash).2.2 = false ∨ xk ⟨k, next s.flash, a, v⟩ = false
 . rw [if_pos hc] at hne; exact absurd rfl hne
 . rw [if_neg hc]
   have hr : xk ⟨k, next s.flash, a, v⟩ = true := by simpa using fun e => hc (.inr e)
   have hroom : (room s.flash).2.2 ≠ false := fun e => hc (.inl e)
   clear hne hc
   by_cases ho : (kz s.flash).2 = true
   . obtain ⟨m, b, h1, hb, hcb, hS⟩ := zeq hfl h.isOrd (by rw [← Ka h4]; exact ho)
     have hob : (kz s.flash).1 = m := by rw [Ka h4, h1]
     unfold room
     rw [if_pos ho, hob]
     dsimp only
     rw [List.nil_append]
     obtain ⟨w1, w2⟩ := zdu (s := s) (t := s) h (Same.refl s) (Int.le_refl _) (by omega) (fun _ h => h) (fun _ _ _ => .inl rfl) hb hcb hS hr (fun e => (h2 e).1)
     exact ⟨Mid.refl h, w1.2, w2.2⟩
   . have ho' : (kz s.flash).2 = false := by simpa using ho
     have h0 := Qx hfl ho'
     have hi := Ju hl
     obtain ⟨b, hb⟩ := zd (l := s.flash) (k := old s.flash) (by omega)
     have hmin := zk6 hfl hb
     have hbm := List.mem_of_getElem? hb
     unfold room at hroom ⊢
     rw [if_neg ho] at hroom ⊢
     dsimp only at hroom ⊢
     rw [ye hb] at hroom ⊢
     have hw : b.worn < 200 := by simpa using hroom
     rw [List.append_assoc]
     refine Safe.append ?_
     have ht := zbg (s0 := s) hfl hbm (b.pages.filter (told s.flash)) [] s (fun p hp => List.mem_filter.1 hp) (fun p hp => by cases hp) ⟨Mid.refl h, rfl, fun _ _ _ => .inl rfl⟩
     refine ht.mono (fun _ h => h.1) fun t ⟨hT, hd⟩ => ?_
     have hd' : ∀ p ∈ b.pages, told s.flash p = true -> dk t p.rc.addr = p.rc.val := fun p hp hp2 => hd p (by simpa using ⟨hp, hp2⟩)
     have hwm := fun torn => zmu hT hb hmin (by omega) hd' torn
     have hst : ∀ torn, zr t ⟨2, 0, 0, (old s.flash : Nat), rc0⟩ torn = ⟨wipe t.flash (old s.flash) torn, t.disk⟩ := fun torn => by
      unfold zr
      rw [if_neg (by dsimp only; decide), if_pos rfl]
      dsimp only
      unfold j9
      rw [Int.toNat_natCast, hT.2.1, ye hb, if_neg (by omega)]
     have hbw : (wipe t.flash (old s.flash) false)[old s.flash]? = some ⟨List.replicate 4 pg0, b.worn + 1⟩ := by rw [hT.2.1]; exact zj8 hb false
     obtain ⟨w1, w2⟩ := zdu (s := s) (t := ⟨wipe t.flash (old s.flash) false, t.disk⟩) (k := k) (a := a) (v := v) (hwm false).1.ok (hwm false).1.same (hwm false).1.nx (hwm false).1.wear (hwm false).1.drt (hwm false).1.dsk hbw (by rw [zfo]; decide) (fun j c hj hcj => by
      dsimp only at hcj
      rw [hT.2.1, zj9 hj] at hcj
      unfold x5
      rw [h0 c (List.mem_of_getElem? hcj)]; rfl) hr (fun e => by
      have hra := xw hr
      dsimp only at hra
      show dk t a = v
      rcases hT.2.2 a hra.1 hra.2.1 with q | q
      . rw [q]; exact (h2 e).1
      . rw [q]; exact (h2 e).2)
     refine ⟨hT.1, by rw [hst]; exact (hwm true).1, ?_⟩
     rw [hst]
     exact ⟨(hwm false).1, w1.2, w2.2⟩
end
end Go.Proofs.YtclnogfmmekooaaGreat
