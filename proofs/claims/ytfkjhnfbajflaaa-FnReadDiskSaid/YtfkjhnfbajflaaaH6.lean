/- Walks: the program's FindNext. -/
import Derived.Test.YtfkjhnfbajflaaaH5
import Derived.Test.YtfkjhnfbajflaaaB
import Derived.Test.YtfkjhnfbajflaaaE3
namespace Go.Proofs.Ytfkjhnfbajflaaa
set_option linter.unusedVariables false
set_option linter.unusedSimpArgs false
open Go.RowKit Go.Shelf
attribute [local go_sem] Oper.semAt_some
set_option maxHeartbeats 400000
set_option maxHeartbeats 1000000 in
theorem eachPage_in (F : Fence) (n : Nat) (h : F.fn 49) (hro : F.round = none) (a : Option Addr) (len cap : Nat) (w : World) :
    CallsIn F n Try.prog 49 #[.slice a len cap] w fun e w' => e = .returned (.func (.func 67) #[] #[.pointer (some ⟨w.heap.size, 0, none⟩)]) ∧ w' = w.alloc (.cells #[.slice a len cap] 23) := by
  refine callsIn_of_wp Try.func49 rfl h ?_ hro
  simp only [Try.ntmps49, List.size_toArray, List.length_cons, List.length_nil, Nat.reduceAdd, Nat.reduceSub, Array.replicate_succ, Array.replicate_zero, List.push_toArray, List.append_toArray, List.nil_append, List.cons_append]
  gi_wp2
  go_ret
  exact ⟨rfl, rfl⟩
theorem eachPage_stops (F : Fence) (n : Nat) (hF : F.fn 67) (hro : F.round = none) (hn : 1 ≤ n) (Bs n₀ g o c : Nat) (f : List Bk) (hs : List (Option Addr × Nat)) (w : World) (hB : Bs < w.heap.size) (hn₀ : n₀ ≤ w.heap.size)
    (hBs : w.cell? ⟨Bs, 0, none⟩ = some (.slice (some ⟨g, o, none⟩) f.length c)) (hl : f.length < 1000000000000) (hp : ∀ b ∈ f, b.pages.length < 1000000000000)
    (hBk : Bks w (some ⟨g, o, none⟩) f hs) (hlow : ∀ b, fblk (some ⟨g, o, none⟩) hs b → b < n₀) :
    SeqStopsK F n Try.prog 67 #[.pointer (some ⟨Bs, 0, none⟩)] encP (Below n₀) (fun ys => ys = allFrom 0 f) (fun pre => pre <+: allFrom 0 f) (allFrom 0 f).length w := fun l J Jx W hW hJ _ hY h0 => by
  refine eachPage1_in F n hF hro hn l Bs n₀ g o c f hs J Jx W (Nat.le_trans hn₀ hW.size) hJ (fun pre x W1 h1 h2 _ => hY pre x W1 h1 h2) ((hW.cell (p := ⟨Bs, 0, none⟩) hB).trans hBs) hl hp (hBk.keep fun q hq hl => hW.block q (by omega)) hlow h0
/-- the greatest number of pages that have come -/
def bigStep (n : Int) (x : PgAt) : Int := if x.2.2.state = 1 then max n x.2.2.rc.seq else n
def bigOf (pre : List PgAt) : Int := pre.foldl bigStep 0
theorem bigOf_snoc (pre : List PgAt) (x : PgAt) : bigOf (pre ++ [x]) = bigStep (bigOf pre) x := by unfold bigOf; rw [List.foldl_append]; rfl
theorem mem_tag {i : Nat} {x : PgAt} : ∀ {ps : List Pg} {j : Nat}, x ∈ tagFrom i j ps → x.2.2 ∈ ps
  | [], _, h => by simp [tagFrom] at h
  | p :: ps, j, h => by
    rw [tagFrom] at h
    rcases List.mem_cons.1 h with rfl | h
    · exact List.mem_cons_self ..
    · exact List.mem_cons_of_mem _ (mem_tag h)
theorem mem_all {x : PgAt} : ∀ {f : List Bk} {i : Nat}, x ∈ allFrom i f → ∃ b ∈ f, x.2.2 ∈ b.pages
  | [], _, h => by simp [allFrom] at h
  | b :: f, i, h => by
    rw [allFrom] at h
    rcases List.mem_append.1 h with h | h
    · exact ⟨b, List.mem_cons_self .., mem_tag h⟩
    · obtain ⟨c, hc, hx⟩ := mem_all h
      exact ⟨c, List.mem_cons_of_mem _ hc, hx⟩
theorem big_range : ∀ {xs : List PgAt} {n : Int}, (∀ x ∈ xs, pageOk x.2.2 = true) → 0 ≤ n → n ≤ 600 → 0 ≤ xs.foldl bigStep n ∧ xs.foldl bigStep n ≤ 600
  | [], n, _, h1, h2 => ⟨h1, h2⟩
  | x :: xs, n, h, h1, h2 => by
    have hx := pageOk_seq (h x (List.mem_cons_self ..))
    refine big_range (xs := xs) (n := bigStep n x) (fun y hy => h y (List.mem_cons_of_mem _ hy)) ?_ ?_
    · unfold bigStep; split <;> omega
    · unfold bigStep; split <;> omega
theorem bigOf_range {f : List Bk} (h : flashOk f = true) : 0 ≤ bigOf (allFrom 0 f) ∧ bigOf (allFrom 0 f) ≤ 600 := by
  refine big_range (fun x hx => ?_) (by omega) (by omega)
  obtain ⟨b, hb, hx⟩ := mem_all hx
  have := blocksGo_true (f := f) (seen := []) (by unfold flashOk at h; simp at h; exact h.2) b hb
  exact this.2 _ hx
/-- cells laid in a block -/
def Laid (W : World) (B : Nat) (t : TypeId) (cs : Array Value) : Prop := W.heap[B]? = some (.cells cs t (0, 0))
theorem Laid.lt {W : World} {B : Nat} {t : TypeId} {cs : Array Value} (h : Laid W B t cs) : B < W.heap.size := (Array.getElem?_eq_some_iff.1 h).1
theorem Laid.cell {W : World} {B : Nat} {t : TypeId} {cs : Array Value} (h : Laid W B t cs) (i : Nat) {u : Value} (hu : cs[i]? = some u) : W.cell? ⟨B, i, none⟩ = some u := by simp [World.cell?, show W.heap[B]? = _ from h, hu]
theorem laid_own (B : Nat) (t : TypeId) (cs : Array Value) (n₀ : Nat) : OwnFrom n₀ (fun (_ : Unit) W => Laid W B t cs) := fun _ X Y row hs hg hr =>
  (hg.block B hs.lt (fun e' => by obtain ⟨_, o, ho, hc⟩ := hr B e'.symm; rw [show X.heap[B]? = _ from hs] at ho; cases ho; cases hc)).trans hs
def pgv (p : Pg) : Array Value := #[.int .i64 p.state, .int .i64 p.rc.kind, .int .i64 p.rc.seq, .int .i64 p.rc.addr, .int .i64 p.rc.val]
def findNext (f : List Bk) : Int := if flashOk f = true then bigOf (allFrom 0 f) + 1 else 0
set_option maxRecDepth 100000 in
set_option maxHeartbeats 4000000 in
theorem impl_FindNext (f : List Bk) (A : Option Addr) (n c : Nat) (w : World) (hn : n = f.length) (hF : Fl w A f) :
    Calls Try.prog 19 #[.slice A n c] w fun e w' => e = .returned (.int .i64 (findNext f)) ∧ Below w.heap.size w w' := by
  subst hn
  refine (callsIn_wide (n := 6)).1 ?_
  refine callsIn_of_wp_marks Try.func19 rfl trivial ?_ rfl
  simp only [Try.ntmps19, List.size_toArray, List.length_cons, List.length_nil, Nat.reduceAdd, Nat.reduceSub, Array.replicate_succ, Array.replicate_zero, List.push_toArray, List.append_toArray, List.nil_append, List.cons_append]
  by_cases hok : flashOk f = true
  · have hfl := flashOk_len hok
    have HFL := Lib.hid hfl
    have hfin : Hid (findNext f = bigOf (allFrom 0 f) + 1) := by unfold Hid findNext; rw [if_pos hok]
    have HP := Lib.hid (show ∀ b ∈ f, b.pages.length < 1000000000000 from fun b hb => by rw [(flashOk_shape hok b hb).1]; omega)
    obtain ⟨hs, hBk⟩ := hF
    have hFc := Lib.hid (impl_FlashOk f A c w ⟨hs, hBk⟩)
    rw [hok] at hFc
    have hrg := bigOf_range hok
    have HPL := Lib.hid (fun b hb => (flashOk_shape hok b hb).1)
    clear hfl hok
    gi_wp2_with (first | (refine ⟨trivial, ?_⟩; gi_at_call 36; refine (callsIn_wide.2 hFc.out).mono ?_; rintro e w1 ⟨rfl, hb1⟩) | (refine ⟨trivial, ?_⟩; gi_at_call 49; refine (eachPage_in Fence.wide _ trivial rfl _ _ _ _).mono ?_; rintro e w2 ⟨rfl, rfl⟩))
    obtain ⟨g, o, rfl⟩ := hBk.addr (by intro e; have := HFL.out; rw [e] at this; simp at this)
    have hlow : ∀ b, fblk (some ⟨g, o, none⟩) hs b → b < w1.heap.size := fun b hb => by
      have h4 := HFL.out
      have hs1 := hb1.size
      rcases hb with hb | ⟨i, x, hx, hb⟩
      · rw [blk_some] at hb
        subst hb
        obtain ⟨B, hB⟩ := get_some (l := f) (k := 0) (by omega)
        obtain ⟨_, _, c0, _⟩ := hBk.at_ hB
        have := lt_of_cell c0
        omega
      · obtain ⟨B, hB⟩ := get_some (l := f) (k := i) (by rw [← hBk.len]; exact (List.getElem?_eq_some_iff.1 hx).1)
        have hr := (hBk.pg i B x hB hx).1
        by_cases hn : B.pages = []
        · have := HPL.out B (List.mem_of_getElem? hB); rw [hn] at this; simp at this
        · obtain ⟨b', o', he, hc⟩ := hr (pgs_ne hn)
          rw [he, blk_some] at hb
          subst hb
          obtain ⟨q, hq⟩ := get_some (l := pgs B.pages) (k := 0) (by rw [pgs_len]; have := List.length_pos_iff.2 hn; omega)
          have := lt_of_cell (hc 0 q hq).1
          omega
    have hBk1 := hBk.below hb1 (Nat.le_refl _)
    have bS := (Boxed.new w1 3 (.int .i64 0)).alloc (.cells #[.slice (some ⟨g, o, none⟩) f.length c] 23)
    have bA := Boxed.new (w1.alloc (.cells #[.int .i64 0] 3)) 23 (.slice (some ⟨g, o, none⟩) f.length c)
    simp only [World.size_alloc] at bA
    have hB0 : Below w1.heap.size w1 ((w1.alloc (.cells #[.int .i64 0] 3)).alloc (.cells #[.slice (some ⟨g, o, none⟩) f.length c] 23)) := ((Below.refl _ w1).alloc (Nat.le_refl _) _).alloc (by simp) _
    have hsz : ((w1.alloc (.cells #[.int .i64 0] 3)).alloc (.cells #[.slice (some ⟨g, o, none⟩) f.length c] 23)).heap.size = w1.heap.size + 2 := by simp
    have hBk2 := (hBk1.alloc (.cells #[.int .i64 0] 3)).alloc (.cells #[.slice (some ⟨g, o, none⟩) f.length c] 23)
    obtain ⟨W0, hW0⟩ : ∃ W0, (w1.alloc (.cells #[.int .i64 0] 3)).alloc (.cells #[.slice (some ⟨g, o, none⟩) f.length c] 23) = W0 := ⟨_, rfl⟩
    rw [hW0] at bS bA hB0 hsz hBk2 ⊢
    have hl4 : f.length < 1000000000000 := by rw [HFL.out]; omega
    clear hW0 hBk hBk1
    refine wpIn_rangeFunc_ownH rfl (by omega) (gf := 67) (lb := #[.pointer (some ⟨w1.heap.size + 1, 0, none⟩)]) rfl trivial (enters_of Try.func67 (by kernel_rfl) rfl)
      (eachPage_stops Fence.wide _ trivial rfl (by omega) (w1.heap.size + 1) w1.heap.size g o c f hs W0 (by omega) (by omega) bA.cell hl4 HP.out hBk2 hlow) belowK_t (belowK_b (by omega)) (Below.refl _ _) (fun _ => rfl)
      (fun pre W => Boxed W w1.heap.size 3 (.int .i64 (bigOf pre)) ∧ Below w1.heap.size w1 W)
      (fun _ _ _ => False)
      (OwnFrom.and (Own.from (boxed_own _ _ _) _) (ownFrom_below (Nat.le_refl _) (by omega)))
      (fun _ _ _ _ _ hs _ _ => hs)
      ⟨bS, hB0⟩
      (fun x a' W => ∃ Bx, w1.heap.size < Bx ∧ Laid W Bx 59 (pgv x.2.2) ∧ a' = { tmps := #[.slice (some ⟨g, o, none⟩) f.length c, undef, .int .i64 0, .pointer (some ⟨w1.heap.size, 0, none⟩), undef, .pointer (some ⟨Bx, 0, none⟩), .slice (some ⟨g, o, none⟩) f.length c, .bool true, .bool false, .slice (some ⟨g, o, none⟩) f.length c, .func (.func 67) #[] #[.pointer (some ⟨w1.heap.size + 1, 0, none⟩)], .agg #[.int .i64 (x.1 : Int), .int .i64 (x.2.1 : Int)], .agg (pgv x.2.2), undef, undef, undef, undef, undef, undef, undef, undef, undef, undef], defers := [] })
      (fun x a' _ X Y row hs hg hr => by obtain ⟨Bx, h1, h2, h3⟩ := hs; exact ⟨Bx, h1, laid_own Bx _ _ _ () X Y row h2 hg hr, h3⟩)
      ?assign ?body ?done ?stop
    case assign =>
      rintro l pre x W K ⟨bS1, hB1⟩ hK
      dsimp only [encP]
      gi_wp2
      exact hK _ _ ((KeepsOthers.alloc _ _).from _) ((Below.refl _ W).alloc hB1.size _) ⟨bS1.alloc _, hB1.alloc hB1.size _⟩ ⟨W.heap.size, bS1.lt, World.alloc_heap_new W _, rfl⟩
    case body =>
      rintro l pre x a' W hl ⟨r, hr⟩ ⟨bS1, hB1⟩ ⟨Bx, hBx, bX, rfl⟩ hlt
      have cS := bS1.cell
      have fS := bS1.frozen
      have x0 : W.cell? ⟨Bx, 0, none⟩ = some (.int .i64 x.2.2.state) := bX.cell 0 rfl
      have x1 : W.cell? ⟨Bx, 1, none⟩ = some (.int .i64 x.2.2.rc.kind) := bX.cell 1 rfl
      have x2 : W.cell? ⟨Bx, 2, none⟩ = some (.int .i64 x.2.2.rc.seq) := bX.cell 2 rfl
      have x3 : W.cell? ⟨Bx, 3, none⟩ = some (.int .i64 x.2.2.rc.addr) := bX.cell 3 rfl
      have x4 : W.cell? ⟨Bx, 4, none⟩ = some (.int .i64 x.2.2.rc.val) := bX.cell 4 rfl
      by_cases h1 : x.2.2.state = 1
      · have hst : Hid (bigOf (pre ++ [x]) = max (bigOf pre) x.2.2.rc.seq) := by rw [Hid, bigOf_snoc]; unfold bigStep; rw [if_pos h1]
        rw [h1] at x0
        gi_wp2
        · have hm : max (bigOf pre) x.2.2.rc.seq = x.2.2.rc.seq := by omega
          exact ⟨(KeepsOthers.setCell _ _ _).from _, (Below.refl _ W).setCell (p := ⟨w1.heap.size, 0, none⟩) (Nat.le_refl _) _, by rw [hst.out, hm]; exact bS1.set _, hB1.setCell (p := ⟨w1.heap.size, 0, none⟩) (Nat.le_refl _) _⟩
        · have hm : max (bigOf pre) x.2.2.rc.seq = bigOf pre := by omega
          exact ⟨(KeepsOthers.setCell _ _ _).from _, (Below.refl _ W).setCell (p := ⟨w1.heap.size, 0, none⟩) (Nat.le_refl _) _, by rw [hst.out, hm]; exact bS1.set _, hB1.setCell (p := ⟨w1.heap.size, 0, none⟩) (Nat.le_refl _) _⟩
      · have hst : Hid (bigOf (pre ++ [x]) = bigOf pre) := by rw [Hid, bigOf_snoc]; unfold bigStep; rw [if_neg h1]
        have h1' : (x.2.2.state == 1) = false := by simpa using h1
        gi_wp2
        exact ⟨KeepsFrom.refl _ _, Below.refl _ _, by rw [hst.out]; exact bS1, hB1⟩
    case done =>
      rintro D ys W hD rfl ⟨bS1, hB1⟩ hK
      have cS := bS1.cell
      have hr := hrg
      have e1 : IntKind.i64.wrap (bigOf (allFrom 0 f) + 1) = bigOf (allFrom 0 f) + 1 := IntWalk.i64_in _ (by omega)
      gi_wp2
      refine ⟨by simp, .inl ⟨_, _, rfl, run_takeDeferred hK, ?_⟩⟩
      exact ⟨_, results_tmp rfl _ _ _, by rw [hfin.out]; rfl, hb1.trans ((hB1.trans (belowK_b (w := w1) (Nat.le_refl _) W D _ _ (by omega) hK rfl rfl)).mono hb1.size)⟩
    case stop =>
      rintro D c pre W _ _ h _
      exact h.elim
  · have hok' : flashOk f = false := by simpa using hok
    have hfin : Hid (findNext f = 0) := by unfold Hid findNext; rw [if_neg hok]
    have hFc := Lib.hid (impl_FlashOk f A c w hF)
    rw [hok'] at hFc
    gi_wp2_with (first | (refine ⟨trivial, ?_⟩; gi_at_call 36; refine (callsIn_wide.2 hFc.out).mono ?_; rintro e w1 ⟨rfl, hb1⟩))
    exact ⟨_, results_tmp rfl _ _ _, by rw [hfin.out]; rfl, hb1⟩
end Go.Proofs.Ytfkjhnfbajflaaa
