/- What the laws' walks share: words, plain laws, and the walks of functions, part 8. -/
import Derived.Laws.ResultCell
import Derived.Laws.EntriesVeiled
import Derived.Deep.RegionHeld3
import Derived.Test.YtbekihiiildgmaaW7
namespace Go.Proofs.Ytbekihiiildgmaa
set_option linter.unusedVariables false
set_option linter.unusedSimpArgs false
open Go.RowKit Go.Maps Go.Shelf
attribute [local go_sem] Oper.semAt_some
set_option maxHeartbeats 400000
def lrStep (a : Int) (o : Rc) (x : PgAt) : Rc := lastStep a o x.2.2
def lrOf (a : Int) (pre : List PgAt) : Rc := pre.foldl (lrStep a) rc0
theorem lrOf_snoc (a : Int) (pre : List PgAt) (x : PgAt) : lrOf a (pre ++ [x]) = lrStep a (lrOf a pre) x := by unfold lrOf; rw [List.foldl_append]; rfl
theorem lr_tag (a : Int) : ∀ (ps : List Pg) (i j : Nat) (o : Rc), (tagFrom i j ps).foldl (lrStep a) o = lastPs a o ps
  | [], _, _, _ => rfl
  | p :: ps, i, j, o => lr_tag a ps i (j + 1) (lastStep a o p)
theorem lr_all (a : Int) : ∀ (f : List Bk) (i : Nat) (o : Rc), (allFrom i f).foldl (lrStep a) o = f.foldl (fun o b => lastPs a o b.pages) o
  | [], _, _ => rfl
  | b :: f, i, o => by
    rw [allFrom, List.foldl_append, lr_tag, lr_all a f]; rfl
theorem lrOf_last (f : List Bk) (a : Int) : lrOf a (allFrom 0 f) = last f a := lr_all a f 0 rc0
def findLast (f : List Bk) (a : Int) : Rc × Bool := if addrB a = true ∧ flashOk f = true then (last f a, decide (0 < (last f a).seq)) else (rc0, false)
def rcA (r : Rc) : Value := .agg #[.int .i64 r.kind, .int .i64 r.seq, .int .i64 r.addr, .int .i64 r.val]
theorem low_of {w : World} {g o n : Nat} {f : List Bk} {hs : List (Option Addr × Nat)} (hBk : Bks w (some ⟨g, o, none⟩) f hs) (h4 : f.length = n + 1) (hp : ∀ b ∈ f, b.pages.length = 4) : ∀ b, fblk (some ⟨g, o, none⟩) hs b → b < w.heap.size := fun b hb => by
  rcases hb with hb | ⟨i, x, hx, hb⟩
  · rw [blk_some] at hb
    subst hb
    obtain ⟨B, hB⟩ := get_some (l := f) (k := 0) (by omega)
    obtain ⟨_, _, c0, _⟩ := hBk.at_ hB
    exact lt_of_cell c0
  · obtain ⟨B, hB⟩ := get_some (l := f) (k := i) (by rw [← hBk.len]; exact (List.getElem?_eq_some_iff.1 hx).1)
    have hr := (hBk.pg i B x hB hx).1
    have hn : B.pages ≠ [] := by intro hn; have := hp B (List.mem_of_getElem? hB); rw [hn] at this; simp at this
    obtain ⟨b', o', he, hc⟩ := hr (pgs_ne hn)
    rw [he, blk_some] at hb
    subst hb
    obtain ⟨q, hq⟩ := get_some (l := pgs B.pages) (k := 0) (by rw [pgs_len]; have := List.length_pos_iff.2 hn; omega)
    exact lt_of_cell (hc 0 q hq).1
set_option maxRecDepth 100000 in
set_option maxHeartbeats 4000000 in
theorem impl_FindLast (f : List Bk) (a : Int) (A : Option Addr) (n c : Nat) (w : World) (hn : n = f.length) (hF : Fl w A f) :
    Calls Try.prog 44 #[.slice A n c, .int .i64 a] w fun e w' => e = .returned (.tuple #[rcA (findLast f a).1, .bool (findLast f a).2]) ∧ Below w.heap.size w w' := by
  subst hn
  refine (callsIn_wide (n := 6)).1 ?_
  refine callsIn_of_wp_marks Try.func44 rfl trivial ?_ rfl
  simp only [Try.ntmps44, List.size_toArray, List.length_cons, List.length_nil, Nat.reduceAdd, Nat.reduceSub, Array.replicate_succ, Array.replicate_zero, List.push_toArray, List.append_toArray, List.nil_append, List.cons_append]
  by_cases ha : addrB a = true
  · have hAc : ∀ w, Hid (Calls Try.prog 87 #[.int .i64 a] w fun e w' => e = .returned (.bool true) ∧ w = w') := fun w => by have := impl_addrOk a w; rw [ha] at this; exact this
    by_cases hok : flashOk f = true
    · have hfin : Hid (findLast f a = (last f a, decide (0 < (last f a).seq))) := by unfold Hid findLast; rw [if_pos ⟨ha, hok⟩]
      have HFL := Lib.hid (flashOk_len hok)
      have HP := Lib.hid (show ∀ b ∈ f, b.pages.length < 1000000000000 from fun b hb => by rw [(flashOk_shape hok b hb).1]; omega)
      have HPL := Lib.hid (fun b hb => (flashOk_shape hok b hb).1)
      obtain ⟨hs, hBk⟩ := hF
      have hFc : ∀ w, Fl w A f → Hid (Calls Try.prog 93 #[.slice A f.length c] w fun e w' => e = .returned (.bool true) ∧ Below w.heap.size w w') := fun w h => by have := impl_FlashOk f A c w h; rw [hok] at this; exact this
      clear ha hok
      gi_wp2_with (first | (refine ⟨trivial, ?_⟩; gi_at_call 87; refine (callsIn_wide.2 (hAc _).out).mono ?_; rintro e w0 ⟨rfl, rfl⟩) | (refine ⟨trivial, ?_⟩; gi_at_call 93; refine (callsIn_wide.2 (hFc _ (Fl.alloc (Fl.alloc ⟨hs, hBk⟩ _) _)).out).mono ?_; rintro e w1 ⟨rfl, hb1⟩; obtain ⟨hc1, hf1⟩ := bcell hb1; have r0 : w1.cell? ⟨w.heap.size + 1, 0, none⟩ = some (.int .i64 0) := (hc1 _ _ (by simp)).trans (by simp); have q0 : w1.frozen? ⟨w.heap.size + 1, 0, none⟩ = false := (hf1 _ _ (by simp)).trans (by simp); have r1 : w1.cell? ⟨w.heap.size + 1, 1, none⟩ = some (.int .i64 0) := (hc1 _ _ (by simp)).trans (by simp); have q1 : w1.frozen? ⟨w.heap.size + 1, 1, none⟩ = false := (hf1 _ _ (by simp)).trans (by simp); have r2 : w1.cell? ⟨w.heap.size + 1, 2, none⟩ = some (.int .i64 0) := (hc1 _ _ (by simp)).trans (by simp); have q2 : w1.frozen? ⟨w.heap.size + 1, 2, none⟩ = false := (hf1 _ _ (by simp)).trans (by simp); have r3 : w1.cell? ⟨w.heap.size + 1, 3, none⟩ = some (.int .i64 0) := (hc1 _ _ (by simp)).trans (by simp); have q3 : w1.frozen? ⟨w.heap.size + 1, 3, none⟩ = false := (hf1 _ _ (by simp)).trans (by simp); have b0 : w1.cell? ⟨w.heap.size, 0, none⟩ = some (.int .i64 a) := (hc1 _ _ (by simp <;> omega)).trans (by simp); have hs1 : w.heap.size + 2 ≤ w1.heap.size := (by have := hb1.size; simp at this; omega); clear hc1 hf1) | (refine ⟨trivial, ?_⟩; gi_at_call 94; refine (eachPage_in Fence.wide _ trivial rfl _ _ _ _).mono ?_; rintro e w2 ⟨rfl, rfl⟩))
      obtain ⟨g, o, rfl⟩ := hBk.addr (by intro e; have := HFL.out; rw [e] at this; simp at this)
      have hlow : ∀ b, fblk (some ⟨g, o, none⟩) hs b → b < w1.heap.size := fun b hb => by have := low_of hBk HFL.out HPL.out b hb; omega
      have hB1 : Below w.heap.size w w1 := Below.trans (by (repeat (first | (with_reducible exact Below.refl _ _) | (with_reducible assumption) | (refine Below.setCell ?_ (by first | omega | exact hB.size | exact hb.size | (have h := hB.size; simp; omega) | (have h := hb.size; simp; omega) | (simp; omega) | simp) _) | (refine Below.alloc ?_ (by first | omega | exact hB.size | exact hb.size | (have h := hB.size; simp; omega) | (have h := hb.size; simp; omega) | (simp; omega) | simp) _) | (refine Below.drew ?_)))) (hb1.mono (by simp; omega))
      clear hb1
      have hBk1 := hBk.below hB1 (Nat.le_refl _)
      have hR0 : Row ((w1.alloc (.cells #[.int .i64 0, .int .i64 0, .int .i64 0, .int .i64 0] 45)).alloc (.cells #[.slice (some ⟨g, o, none⟩) f.length c] 23)) (some ⟨w1.heap.size, 0, none⟩) (lrOf a []).vs := (Row.new w1 #[.int .i64 0, .int .i64 0, .int .i64 0, .int .i64 0] 45).alloc _
      have bA := Boxed.new (w1.alloc (.cells #[.int .i64 0, .int .i64 0, .int .i64 0, .int .i64 0] 45)) 23 (.slice (some ⟨g, o, none⟩) f.length c)
      simp only [World.size_alloc] at bA
      have hB0 : Below w1.heap.size w1 ((w1.alloc (.cells #[.int .i64 0, .int .i64 0, .int .i64 0, .int .i64 0] 45)).alloc (.cells #[.slice (some ⟨g, o, none⟩) f.length c] 23)) := ((Below.refl _ w1).alloc (Nat.le_refl _) _).alloc (by simp) _
      have hsz : ((w1.alloc (.cells #[.int .i64 0, .int .i64 0, .int .i64 0, .int .i64 0] 45)).alloc (.cells #[.slice (some ⟨g, o, none⟩) f.length c] 23)).heap.size = w1.heap.size + 2 := by simp
      have hBk2 := (hBk1.alloc (.cells #[.int .i64 0, .int .i64 0, .int .i64 0, .int .i64 0] 45)).alloc (.cells #[.slice (some ⟨g, o, none⟩) f.length c] 23)
      obtain ⟨W0, hW0⟩ : ∃ W0, (w1.alloc (.cells #[.int .i64 0, .int .i64 0, .int .i64 0, .int .i64 0] 45)).alloc (.cells #[.slice (some ⟨g, o, none⟩) f.length c] 23) = W0 := ⟨_, rfl⟩
      rw [hW0] at bA hB0 hsz hBk2 hR0 ⊢
      have hl4 : f.length < 1000000000000 := by rw [HFL.out]; omega
      clear hW0 hBk hBk1
      refine wpIn_rangeFunc_ownH rfl (by omega) (gf := 141) (lb := #[.pointer (some ⟨w1.heap.size + 1, 0, none⟩)]) rfl trivial (enters_of Try.func141 (by kernel_rfl) rfl)
        (eachPage_stops Fence.wide _ trivial rfl (by omega) (w1.heap.size + 1) w1.heap.size g o c f hs W0 (by omega) (by omega) bA.cell hl4 HP.out hBk2 hlow) belowK_t (belowK_b (by omega)) (Below.refl _ _) (fun _ => rfl)
        (fun pre W => Row W (some ⟨w1.heap.size, 0, none⟩) (lrOf a pre).vs ∧ Below w1.heap.size w1 W)
        (fun _ _ _ => False)
        (OwnFrom.and (fun pre X Y row h hg hr => row_own _ _ _ () X Y row h hg hr) (ownFrom_below (Nat.le_refl _) (by omega)))
        (fun _ _ _ _ _ hs _ _ => hs)
        ⟨hR0, hB0⟩
        (fun x a' W => ∃ Bx, w1.heap.size < Bx ∧ Laid W Bx 119 (pgv x.2.2) ∧ a' = { tmps := #[.slice (some ⟨g, o, none⟩) f.length c, .int .i64 a, undef, .pointer (some ⟨w.heap.size, 0, none⟩), .pointer (some ⟨w.heap.size + 1, 0, none⟩), .bool false, .pointer (some ⟨w1.heap.size, 0, none⟩), undef, .pointer (some ⟨Bx, 0, none⟩), .int .i64 a, .bool true, .bool false, .bool false, .slice (some ⟨g, o, none⟩) f.length c, .bool true, .bool false, .bool false, undef, .slice (some ⟨g, o, none⟩) f.length c, .func (.func 141) #[] #[.pointer (some ⟨w1.heap.size + 1, 0, none⟩)], .agg #[.int .i64 (x.1 : Int), .int .i64 (x.2.1 : Int)], .agg (pgv x.2.2), undef, undef, undef, undef, undef, undef, undef, undef, undef, undef, undef, undef, undef, undef, undef, undef, undef, undef, undef, undef, undef, undef, undef, undef], defers := [] })
        (fun x a' _ X Y row hs hg hr => by obtain ⟨Bx, h1, h2, h3⟩ := hs; exact ⟨Bx, h1, laid_own Bx _ _ _ () X Y row h2 hg hr, h3⟩)
        ?assign ?body ?done ?stop
      case assign =>
        rintro l pre x W K ⟨hR1, hB2⟩ hK
        dsimp only [encP]
        gi_wp2
        have hlt := hR1.lt (by simp [Rc.vs]) (blk_some.2 rfl)
        exact hK _ _ ((KeepsOthers.alloc _ _).from _) ((Below.refl _ W).alloc hB2.size _) ⟨hR1.alloc _, hB2.alloc hB2.size _⟩ ⟨W.heap.size, hlt, World.alloc_heap_new W _, rfl⟩
      case body =>
        rintro l pre x a' W hl ⟨r, hr⟩ ⟨hR1, hB2⟩ ⟨Bx, hBx, bX, rfl⟩ hlt
        have x0 : W.cell? ⟨Bx, 0, none⟩ = some (.int .i64 x.2.2.state) := bX.cell 0 rfl
        have x1 : W.cell? ⟨Bx, 1, none⟩ = some (.int .i64 x.2.2.rc.kind) := bX.cell 1 rfl
        have x2 : W.cell? ⟨Bx, 2, none⟩ = some (.int .i64 x.2.2.rc.seq) := bX.cell 2 rfl
        have x3 : W.cell? ⟨Bx, 3, none⟩ = some (.int .i64 x.2.2.rc.addr) := bX.cell 3 rfl
        have x4 : W.cell? ⟨Bx, 4, none⟩ = some (.int .i64 x.2.2.rc.val) := bX.cell 4 rfl
        have bB := (hB2.cell (p := ⟨w.heap.size, 0, none⟩) (by show w.heap.size < _; omega)).trans b0
        have hst : Hid (lrOf a (pre ++ [x]) = lrStep a (lrOf a pre) x) := lrOf_snoc a pre x
        generalize lrOf a pre = q at *
        obtain ⟨l0, f0⟩ := hR1.at0 (j := 0) rfl
        obtain ⟨l1, f1⟩ := hR1.at0 (j := 1) rfl
        obtain ⟨l2, f2⟩ := hR1.at0 (j := 2) rfl
        obtain ⟨l3, f3⟩ := hR1.at0 (j := 3) rfl
        have hW : Hid (Wrote W ((((W.setCell ⟨w1.heap.size, 0, none⟩ (.int .i64 x.2.2.rc.kind)).setCell ⟨w1.heap.size, 1, none⟩ (.int .i64 x.2.2.rc.seq)).setCell ⟨w1.heap.size, 2, none⟩ (.int .i64 x.2.2.rc.addr)).setCell ⟨w1.heap.size, 3, none⟩ (.int .i64 x.2.2.rc.val)) w1.heap.size 0 x.2.2.rc.vs) := wrote_rec hR1 x.2.2.rc
        have hbad : ∀ P : Prop, (P → False) → (x.2.2.state = 1 ∧ x.2.2.rc.addr = a ∧ q.seq < x.2.2.rc.seq → P) → Hid (lrOf a (pre ++ [x]) = q) := fun P h1 h2 => by
          rw [Hid, hst.out]; unfold lrStep lastStep; rw [if_neg (fun e => h1 (h2 e))]
        by_cases h1 : x.2.2.state = 1
        · by_cases h2 : x.2.2.rc.addr = a
          · by_cases hc : q.seq < x.2.2.rc.seq
            · have hs2 : Hid (lrOf a (pre ++ [x]) = x.2.2.rc) := by rw [Hid, hst.out]; unfold lrStep lastStep; rw [if_pos ⟨h1, h2, hc⟩]
              rw [h1] at x0
              rw [h2] at x3 hW
              clear hst hbad h1
              gi_wp2
              refine ⟨((((KeepsOthers.setCell _ _ _).trans (KeepsOthers.setCell _ _ _)).trans (KeepsOthers.setCell _ _ _)).trans (KeepsOthers.setCell _ _ _)).from _, ((((Below.refl _ W).setCell (p := ⟨w1.heap.size, 0, none⟩) (Nat.le_refl _) _).setCell (p := ⟨w1.heap.size, 1, none⟩) (Nat.le_refl _) _).setCell (p := ⟨w1.heap.size, 2, none⟩) (Nat.le_refl _) _).setCell (p := ⟨w1.heap.size, 3, none⟩) (Nat.le_refl _) _, by rw [hs2.out]; exact hW.out.rec_ hR1, (((hB2.setCell (p := ⟨w1.heap.size, 0, none⟩) (Nat.le_refl _) _).setCell (p := ⟨w1.heap.size, 1, none⟩) (Nat.le_refl _) _).setCell (p := ⟨w1.heap.size, 2, none⟩) (Nat.le_refl _) _).setCell (p := ⟨w1.heap.size, 3, none⟩) (Nat.le_refl _) _⟩
            · have hs2 := hbad _ hc (fun e => e.2.2)
              rw [h1] at x0
              rw [h2] at x3
              clear hst hbad h1 hW
              gi_wp2
              exact ⟨KeepsFrom.refl _ _, Below.refl _ _, by rw [hs2.out]; exact hR1, hB2⟩
          · have hs2 := hbad _ h2 (fun e => e.2.1)
            have h2' : (x.2.2.rc.addr == a) = false := by simpa using h2
            rw [h1] at x0
            clear hst hbad h1 hW
            gi_wp2
            exact ⟨KeepsFrom.refl _ _, Below.refl _ _, by rw [hs2.out]; exact hR1, hB2⟩
        · have hs2 := hbad _ h1 (fun e => e.1)
          have h1' : (x.2.2.state == 1) = false := by simpa using h1
          clear hst hbad hW
          gi_wp2
          exact ⟨KeepsFrom.refl _ _, Below.refl _ _, by rw [hs2.out]; exact hR1, hB2⟩
      case done =>
        rintro D ys W hD rfl ⟨hR1, hB2⟩ hK
        rw [lrOf_last] at hR1
        generalize last f a = q at *
        obtain ⟨l0, f0⟩ := hR1.at0 (j := 0) rfl
        obtain ⟨l1, f1⟩ := hR1.at0 (j := 1) rfl
        obtain ⟨l2, f2⟩ := hR1.at0 (j := 2) rfl
        obtain ⟨l3, f3⟩ := hR1.at0 (j := 3) rfl
        have rr0 := (hB2.cell (p := ⟨w.heap.size + 1, 0, none⟩) (by show w.heap.size + 1 < _; omega)).trans r0
        have rr1 := (hB2.cell (p := ⟨w.heap.size + 1, 1, none⟩) (by show w.heap.size + 1 < _; omega)).trans r1
        have rr2 := (hB2.cell (p := ⟨w.heap.size + 1, 2, none⟩) (by show w.heap.size + 1 < _; omega)).trans r2
        have rr3 := (hB2.cell (p := ⟨w.heap.size + 1, 3, none⟩) (by show w.heap.size + 1 < _; omega)).trans r3
        have qq0 := (hB2.frozen (p := ⟨w.heap.size + 1, 0, none⟩) (by show w.heap.size + 1 < _; omega)).trans q0
        have qq1 := (hB2.frozen (p := ⟨w.heap.size + 1, 1, none⟩) (by show w.heap.size + 1 < _; omega)).trans q1
        have qq2 := (hB2.frozen (p := ⟨w.heap.size + 1, 2, none⟩) (by show w.heap.size + 1 < _; omega)).trans q2
        have qq3 := (hB2.frozen (p := ⟨w.heap.size + 1, 3, none⟩) (by show w.heap.size + 1 < _; omega)).trans q3
        gi_wp2
        gi_region
        gi_wp2
        have hK' : ((((W.setCell ⟨w.heap.size + 1, 0, none⟩ (.int .i64 q.kind)).setCell ⟨w.heap.size + 1, 1, none⟩ (.int .i64 q.seq)).setCell ⟨w.heap.size + 1, 2, none⟩ (.int .i64 q.addr)).setCell ⟨w.heap.size + 1, 3, none⟩ (.int .i64 q.val)).drew.heap[D]? = some (.deferred (some [])) := by
          show ((((W.setCell ⟨w.heap.size + 1, 0, none⟩ (.int .i64 q.kind)).setCell ⟨w.heap.size + 1, 1, none⟩ (.int .i64 q.seq)).setCell ⟨w.heap.size + 1, 2, none⟩ (.int .i64 q.addr)).setCell ⟨w.heap.size + 1, 3, none⟩ (.int .i64 q.val)).heap[D]? = _
          rw [Below.heap_setCell _ _ _ _ (by simp; omega), Below.heap_setCell _ _ _ _ (by simp; omega), Below.heap_setCell _ _ _ _ (by simp; omega), Below.heap_setCell _ _ _ _ (by simp; omega)]
          exact hK
        have hBW : Below w.heap.size w ((((W.setCell ⟨w.heap.size + 1, 0, none⟩ (.int .i64 q.kind)).setCell ⟨w.heap.size + 1, 1, none⟩ (.int .i64 q.seq)).setCell ⟨w.heap.size + 1, 2, none⟩ (.int .i64 q.addr)).setCell ⟨w.heap.size + 1, 3, none⟩ (.int .i64 q.val)).drew := (((((hB1.trans (hB2.mono hB1.size)).setCell (p := ⟨w.heap.size + 1, 0, none⟩) (by show w.heap.size ≤ w.heap.size + 1; omega) _).setCell (p := ⟨w.heap.size + 1, 1, none⟩) (by show w.heap.size ≤ w.heap.size + 1; omega) _).setCell (p := ⟨w.heap.size + 1, 2, none⟩) (by show w.heap.size ≤ w.heap.size + 1; omega) _).setCell (p := ⟨w.heap.size + 1, 3, none⟩) (by show w.heap.size ≤ w.heap.size + 1; omega) _).drew
        have hRow : Row W (some ⟨w.heap.size + 1, 0, none⟩) rc0.vs := fun _ => ⟨_, _, rfl, fun j u hj => by
          match j, hj with
          | 0, hj => simp [Rc.vs, rc0] at hj; subst hj; exact ⟨rr0, qq0⟩
          | 1, hj => simp [Rc.vs, rc0] at hj; subst hj; exact ⟨rr1, qq1⟩
          | 2, hj => simp [Rc.vs, rc0] at hj; subst hj; exact ⟨rr2, qq2⟩
          | 3, hj => simp [Rc.vs, rc0] at hj; subst hj; exact ⟨rr3, qq3⟩
          | n + 4, hj => simp [Rc.vs] at hj⟩
        have hWr : Wrote W ((((W.setCell ⟨w.heap.size + 1, 0, none⟩ (.int .i64 q.kind)).setCell ⟨w.heap.size + 1, 1, none⟩ (.int .i64 q.seq)).setCell ⟨w.heap.size + 1, 2, none⟩ (.int .i64 q.addr)).setCell ⟨w.heap.size + 1, 3, none⟩ (.int .i64 q.val)) (w.heap.size + 1) 0 q.vs := wrote_rec hRow q
        have v0 : ((((W.setCell ⟨w.heap.size + 1, 0, none⟩ (.int .i64 q.kind)).setCell ⟨w.heap.size + 1, 1, none⟩ (.int .i64 q.seq)).setCell ⟨w.heap.size + 1, 2, none⟩ (.int .i64 q.addr)).setCell ⟨w.heap.size + 1, 3, none⟩ (.int .i64 q.val)).drew.cell? ⟨w.heap.size + 1, 0, none⟩ = some (.int .i64 q.kind) := hWr.new_ 0 _ rfl
        have v1 : ((((W.setCell ⟨w.heap.size + 1, 0, none⟩ (.int .i64 q.kind)).setCell ⟨w.heap.size + 1, 1, none⟩ (.int .i64 q.seq)).setCell ⟨w.heap.size + 1, 2, none⟩ (.int .i64 q.addr)).setCell ⟨w.heap.size + 1, 3, none⟩ (.int .i64 q.val)).drew.cell? ⟨w.heap.size + 1, 1, none⟩ = some (.int .i64 q.seq) := hWr.new_ 1 _ rfl
        have v2 : ((((W.setCell ⟨w.heap.size + 1, 0, none⟩ (.int .i64 q.kind)).setCell ⟨w.heap.size + 1, 1, none⟩ (.int .i64 q.seq)).setCell ⟨w.heap.size + 1, 2, none⟩ (.int .i64 q.addr)).setCell ⟨w.heap.size + 1, 3, none⟩ (.int .i64 q.val)).drew.cell? ⟨w.heap.size + 1, 2, none⟩ = some (.int .i64 q.addr) := hWr.new_ 2 _ rfl
        have v3 : ((((W.setCell ⟨w.heap.size + 1, 0, none⟩ (.int .i64 q.kind)).setCell ⟨w.heap.size + 1, 1, none⟩ (.int .i64 q.seq)).setCell ⟨w.heap.size + 1, 2, none⟩ (.int .i64 q.addr)).setCell ⟨w.heap.size + 1, 3, none⟩ (.int .i64 q.val)).drew.cell? ⟨w.heap.size + 1, 3, none⟩ = some (.int .i64 q.val) := hWr.new_ 3 _ rfl
        have hzV : w.heap.size + 1 < ((((W.setCell ⟨w.heap.size + 1, 0, none⟩ (.int .i64 q.kind)).setCell ⟨w.heap.size + 1, 1, none⟩ (.int .i64 q.seq)).setCell ⟨w.heap.size + 1, 2, none⟩ (.int .i64 q.addr)).setCell ⟨w.heap.size + 1, 3, none⟩ (.int .i64 q.val)).drew.heap.size := by have := hB2.size; simp; omega
        refine ⟨by simp, .inl ⟨_, _, rfl, run_takeDeferred hK', ?_⟩⟩
        obtain ⟨V, hV⟩ : ∃ V, ((((W.setCell ⟨w.heap.size + 1, 0, none⟩ (.int .i64 q.kind)).setCell ⟨w.heap.size + 1, 1, none⟩ (.int .i64 q.seq)).setCell ⟨w.heap.size + 1, 2, none⟩ (.int .i64 q.addr)).setCell ⟨w.heap.size + 1, 3, none⟩ (.int .i64 q.val)).drew = V := ⟨_, rfl⟩
        clear hWr
        rw [hV] at hK' hBW v0 v1 v2 v3 hzV ⊢
        have cX : ∀ o, (V.putObj D (.deferred none)).cell? ⟨w.heap.size + 1, o, none⟩ = V.cell? ⟨w.heap.size + 1, o, none⟩ := fun o => World.cell?_of_block (a := ⟨w.heap.size + 1, o, none⟩) (World.putObj_heap_other (by show w.heap.size + 1 ≠ D; omega))
        replace v0 := (cX 0).trans v0
        replace v1 := (cX 1).trans v1
        replace v2 := (cX 2).trans v2
        replace v3 := (cX 3).trans v3
        have hBX := hBW.trans (belowK_b (w := w) (Nat.le_refl _) V D _ (.deferred none) (by omega) hK' rfl rfl)
        have hzX : w.heap.size + 1 < (V.putObj D (.deferred none)).heap.size := by simpa using hzV
        generalize V.putObj D (.deferred none) = X at *
        exact ⟨.tuple #[rcA q, .bool (decide (0 < q.seq))], by simp [results, Try.results44, go_sem, hzX, v0, v1, v2, v3, rcA], by rw [hfin.out], hBX⟩
      case stop =>
        rintro D c pre W _ _ h _
        exact h.elim
    · have hok' : flashOk f = false := by simpa using hok
      have hfin : Hid (findLast f a = (rc0, false)) := by unfold Hid findLast; rw [if_neg (fun e => hok e.2)]
      have hFc : ∀ w, Fl w A f → Hid (Calls Try.prog 93 #[.slice A f.length c] w fun e w' => e = .returned (.bool false) ∧ Below w.heap.size w w') := fun w h => by have := impl_FlashOk f A c w h; rw [hok'] at this; exact this
      clear ha hok hok'
      gi_wp2_with (first | (refine ⟨trivial, ?_⟩; gi_at_call 87; refine (callsIn_wide.2 (hAc _).out).mono ?_; rintro e w0 ⟨rfl, rfl⟩) | (refine ⟨trivial, ?_⟩; gi_at_call 93; refine (callsIn_wide.2 (hFc _ ((hF.alloc _).alloc _)).out).mono ?_; rintro e w1 ⟨rfl, hb1⟩; obtain ⟨hc1, hf1⟩ := bcell hb1; have r0 : w1.cell? ⟨w.heap.size + 1, 0, none⟩ = some (.int .i64 0) := (hc1 _ _ (by simp)).trans (by simp); have q0 : w1.frozen? ⟨w.heap.size + 1, 0, none⟩ = false := (hf1 _ _ (by simp)).trans (by simp); have r1 : w1.cell? ⟨w.heap.size + 1, 1, none⟩ = some (.int .i64 0) := (hc1 _ _ (by simp)).trans (by simp); have q1 : w1.frozen? ⟨w.heap.size + 1, 1, none⟩ = false := (hf1 _ _ (by simp)).trans (by simp); have r2 : w1.cell? ⟨w.heap.size + 1, 2, none⟩ = some (.int .i64 0) := (hc1 _ _ (by simp)).trans (by simp); have q2 : w1.frozen? ⟨w.heap.size + 1, 2, none⟩ = false := (hf1 _ _ (by simp)).trans (by simp); have r3 : w1.cell? ⟨w.heap.size + 1, 3, none⟩ = some (.int .i64 0) := (hc1 _ _ (by simp)).trans (by simp); have q3 : w1.frozen? ⟨w.heap.size + 1, 3, none⟩ = false := (hf1 _ _ (by simp)).trans (by simp); have b0 : w1.cell? ⟨w.heap.size, 0, none⟩ = some (.int .i64 a) := (hc1 _ _ (by simp <;> omega)).trans (by simp); have hs1 : w.heap.size + 2 ≤ w1.heap.size := (by have := hb1.size; simp at this; omega); clear hc1 hf1))
      have hz : w.heap.size + 1 < w1.heap.size := by omega
      have hB1 : Below w.heap.size w w1 := Below.trans (by (repeat (first | (with_reducible exact Below.refl _ _) | (with_reducible assumption) | (refine Below.setCell ?_ (by first | omega | exact hB.size | exact hb.size | (have h := hB.size; simp; omega) | (have h := hb.size; simp; omega) | (simp; omega) | simp) _) | (refine Below.alloc ?_ (by first | omega | exact hB.size | exact hb.size | (have h := hB.size; simp; omega) | (have h := hb.size; simp; omega) | (simp; omega) | simp) _) | (refine Below.drew ?_)))) (hb1.mono (by simp; omega))
      clear hb1
      refine ⟨.tuple #[rcA rc0, .bool false], by simp [results, Try.results44, go_sem, hz, r0, r1, r2, r3, rcA, rc0], by rw [hfin.out], ?_⟩
      (repeat (first | (with_reducible exact Below.refl _ _) | (with_reducible assumption) | (refine Below.setCell ?_ (by first | omega | exact hB.size | exact hb.size | (have h := hB.size; simp; omega) | (have h := hb.size; simp; omega) | (simp; omega) | simp) _) | (refine Below.alloc ?_ (by first | omega | exact hB.size | exact hb.size | (have h := hB.size; simp; omega) | (have h := hb.size; simp; omega) | (simp; omega) | simp) _) | (refine Below.drew ?_)))
  · have ha' : addrB a = false := by simpa using ha
    have hfin : Hid (findLast f a = (rc0, false)) := by unfold Hid findLast; rw [if_neg (fun e => ha e.1)]
    have hAc : ∀ w, Hid (Calls Try.prog 87 #[.int .i64 a] w fun e w' => e = .returned (.bool false) ∧ w = w') := fun w => by have := impl_addrOk a w; rw [ha'] at this; exact this
    clear ha ha'
    gi_wp2_with (first | (refine ⟨trivial, ?_⟩; gi_at_call 87; refine (callsIn_wide.2 (hAc _).out).mono ?_; rintro e w1 ⟨rfl, rfl⟩) | (refine ⟨trivial, ?_⟩))
    refine ⟨.tuple #[rcA rc0, .bool false], by simp [results, Try.results44, go_sem, rcA, rc0], by rw [hfin.out], ?_⟩
    (repeat (first | (with_reducible exact Below.refl _ _) | (with_reducible assumption) | (refine Below.setCell ?_ (by first | omega | exact hB.size | exact hb.size | (have h := hB.size; simp; omega) | (have h := hb.size; simp; omega) | (simp; omega) | simp) _) | (refine Below.alloc ?_ (by first | omega | exact hB.size | exact hb.size | (have h := hB.size; simp; omega) | (have h := hb.size; simp; omega) | (simp; omega) | simp) _) | (refine Below.drew ?_)))
end Go.Proofs.Ytbekihiiildgmaa
open Go.RowKit Go.IntWalk Go.Maps
namespace Go.Proofs.Ytbekihiiildgmaa
set_option linter.unusedVariables false
set_option linter.unusedSimpArgs false
set_option maxHeartbeats 1000000
theorem live_found {f : List Bk} (hok : flashOk f = true) {b : Bk} (hb : b ∈ f) {p : Pg} (hp : p ∈ b.pages) (h1 : p.state = 1) : findLast f p.rc.addr = (last f p.rc.addr, true) := by
  have hr := rec_of_written ((bk_parts hok hb).2.2.2 p hp) h1
  have ha := recOk_addr hr
  have hm := last_max (f := f) (r := p.rc) ⟨b, hb, p, hp, h1, rfl⟩
  unfold findLast
  rw [if_pos ⟨addrB_iff.2 ⟨ha.1, ha.2.1⟩, hok⟩]
  congr 1
  simp; omega
theorem impl_FindLive (f : List Bk) (i j : Nat) (b : Bk) (p : Pg) (A : Option Addr) (n c : Nat) (w : World) (hn : n = f.length) (hok : flashOk f = true) (hb : f[i]? = some b) (hp : b.pages[j]? = some p) (hF : Fl w A f) :
    Calls Try.prog 130 #[.slice A n c, .int .i64 i, .int .i64 j] w fun e w' => e = .returned (.bool (live f p)) ∧ Below w.heap.size w w' := by
  subst hn
  have hl := flashOk_len hok
  have hl4 := (flashOk_shape hok b (List.mem_of_getElem? hb)).1
  have hi : i < 4 := by rw [← hl]; exact (List.getElem?_eq_some_iff.1 hb).1
  have hj : j < 4 := by rw [← hl4]; exact (List.getElem?_eq_some_iff.1 hp).1
  have hbo : blockB i = true := blockB_iff.2 (by omega)
  have hFc : ∀ w, Fl w A f → Hid (Calls Try.prog 93 #[.slice A f.length c] w fun e w' => e = .returned (.bool true) ∧ Below w.heap.size w w') := fun w h => by have := impl_FlashOk f A c w h; rw [hok] at this; exact this
  have hBc : ∀ w, Hid (Calls Try.prog 119 #[.int .i64 i] w fun e w' => e = .returned (.bool true) ∧ w = w') := fun w => by have := impl_blockOk i w; rw [hbo] at this; exact this
  have hFL : p.state = 1 → Hid (findLast f p.rc.addr = (last f p.rc.addr, true)) := fun h => live_found hok (List.mem_of_getElem? hb) (List.mem_of_getElem? hp) h
  have hil : (i : Int) < f.length := by omega
  have hj4 : (j : Int) < 4 := by omega
  have hjl : (j : Int) < b.pages.length := by omega
  have HL := Lib.hid hl
  clear hok hbo hl hl4
  go_enter Try.func130, Try.ntmps130
  go_wp2_with fail
  refine (hFc _ hF).out.mono ?_
  rintro e w1 ⟨rfl, hb1⟩
  have hF1 := hF.below hb1 (Nat.le_refl _)
  obtain ⟨hs, hBk⟩ := hF1
  obtain ⟨g, o, rfl⟩ := hBk.addr (by rintro rfl; simp at hb)
  obtain ⟨⟨Z, cz⟩, _, z0, z1, _, _, hR, _⟩ := hBk.at_ hb
  dsimp only at z0 hR
  obtain ⟨pb, po, rfl⟩ := hR.addr (pgs_ne (by intro e; rw [e] at hp; simp at hp))
  obtain ⟨c0, c1, c2, c3, c4⟩ := hR.pg hp
  have HB := Lib.hid hb
  have HP := Lib.hid hp
  clear hb hp
  by_cases h1 : p.state = 1
  · have hfl := hFL h1
    have hfin : Hid (live f p = decide (last f p.rc.addr = p.rc)) := by unfold Hid live; simp [h1]
    rw [h1] at c0
    clear h1 hFL
    go_wp2_with (go_at_call 119; refine (hBc _).out.mono ?_; rintro e w2 ⟨rfl, rfl⟩)
    have hFx : Fl (w1.alloc (.cells #[.int .i64 1, .int .i64 p.rc.kind, .int .i64 p.rc.seq, .int .i64 p.rc.addr, .int .i64 p.rc.val] 119)) (some ⟨g, o, none⟩) f := Fl.alloc ⟨hs, hBk⟩ _
    refine (impl_FindLast f p.rc.addr _ _ c _ rfl hFx).mono ?_
    rintro e w3 ⟨rfl, hb3⟩
    rw [hfl.out]
    have hB3 : Below w.heap.size w w3 := (hb1.alloc hb1.size _).trans (hb3.mono (by have := hb1.size; simp; omega))
    obtain ⟨hc, hfz⟩ := bcell hb3
    have hs3 : w1.heap.size + 1 ≤ w3.heap.size := by have := hb3.size; simpa using this
    have x1 : w3.cell? ⟨w1.heap.size, 1, none⟩ = some (.int .i64 p.rc.kind) := (hc _ _ (by simp)).trans (by simp)
    have x2 : w3.cell? ⟨w1.heap.size, 2, none⟩ = some (.int .i64 p.rc.seq) := (hc _ _ (by simp)).trans (by simp)
    have x3 : w3.cell? ⟨w1.heap.size, 3, none⟩ = some (.int .i64 p.rc.addr) := (hc _ _ (by simp)).trans (by simp)
    have x4 : w3.cell? ⟨w1.heap.size, 4, none⟩ = some (.int .i64 p.rc.val) := (hc _ _ (by simp)).trans (by simp)
    have hle : Hid (decide (last f p.rc.addr = p.rc) = (decide ((last f p.rc.addr).kind = p.rc.kind) && (decide ((last f p.rc.addr).seq = p.rc.seq) && (decide ((last f p.rc.addr).addr = p.rc.addr) && decide ((last f p.rc.addr).val = p.rc.val))))) := by
      unfold Hid
      generalize last f p.rc.addr = x
      obtain ⟨a, b, c, d⟩ := x
      obtain ⟨st, e, g, h, i⟩ := p
      simp [Bool.and_assoc]
    generalize last f p.rc.addr = x at *
    have hne : w1.heap.size < w3.heap.size := by omega
    unfold rcA
    clear hb3 hc hfz hBk hR z0 z1 c0 c1 c2 c3 c4 hFx hFc hBc
    go_wp2
    all_goals go_ret
    all_goals exact ⟨ret_bool (by rw [hfin.out, hle.out]; simp [*]), hB3.alloc hB3.size _⟩
  · have hfin : Hid (live f p = false) := by unfold Hid live; simp [h1]
    have h1' : (p.state == 1) = false := by simpa using h1
    clear hFL
    go_wp2_with (go_at_call 119; refine (hBc _).out.mono ?_; rintro e w2 ⟨rfl, rfl⟩)
    go_ret
    exact ⟨ret_bool hfin.out.symm, hb1.alloc hb1.size _⟩
theorem OwnS.nul (w : World) (base : Nat) : OwnS w base (.slice none 0 0) [] := World.ownsRow_nil w base _ _
theorem OwnS.one (w : World) (base : Nat) (hb : base ≤ w.heap.size) (x : Sp) : OwnS (w.alloc (.cells #[.int .i64 x.kind, .int .i64 x.addr, .int .i64 x.val, .int .i64 x.block, .int .i64 x.rc.kind, .int .i64 x.rc.seq, .int .i64 x.rc.addr, .int .i64 x.rc.val] 47)) base (.slice (some ⟨w.heap.size, 0, none⟩) 1 1) [x] := World.ownsRow_lit w #[.int .i64 x.kind, .int .i64 x.addr, .int .i64 x.val, .int .i64 x.block, .int .i64 x.rc.kind, .int .i64 x.rc.seq, .int .i64 x.rc.addr, .int .i64 x.rc.val] 1 hb (by unfold maxLen; omega) rfl
set_option maxRecDepth 20000 in
theorem impl_stepsWrite (f : List Bk) (kind addr val : Int) (A : Option Addr) (n c : Nat) (w : World) (hn : n = f.length) (hok : flashOk f = true) (hF : Fl w A f) :
    Calls Try.prog 79 #[.slice A n c, .int .i64 kind, .int .i64 addr, .int .i64 val] w fun e w' => ∃ v, e = .returned v ∧ OwnS w' w.heap.size v (wr f kind addr val) ∧ Below w.heap.size w w' := by
  subst hn
  obtain ⟨ib, hib, hbz0, hbz1, hbz2⟩ := info_parts Try.info3_step
  have HL := Lib.hid (flashOk_len hok)
  have HOK := Lib.hid hok
  have hFN : ∀ w, Fl w A f → Hid (Calls Try.prog 127 #[.slice A f.length c] w fun e w' => e = .returned (.int .i64 (next f)) ∧ Below w.heap.size w w') := fun w h => by have := impl_FindNext f A _ c w rfl h; rw [findNext_eq hok] at this; exact this
  have hFO : ∀ w, Fl w A f → Hid (Calls Try.prog 128 #[.slice A f.length c] w fun e w' => e = .returned (.tuple #[.int .i64 (openB f).1, .bool (openB f).2]) ∧ Below w.heap.size w w') := fun w h => by have := impl_FindOpen f A _ c w rfl h; unfold findOpen at this; rw [if_pos hok] at this; exact this
  have hFD : ∀ w, Fl w A f → Hid (Calls Try.prog 129 #[.slice A f.length c] w fun e w' => e = .returned (.int .i64 (old f : Nat)) ∧ Below w.heap.size w w') := fun w h => by have := impl_FindOld f A _ c w rfl h; rw [findOld_old hok] at this; exact this
  have hfin : Hid (wr f kind addr val = if (room f).2.2 = false ∨ recOk ⟨kind, next f, addr, val⟩ = false then [] else (room f).1 ++ [⟨3, 0, 0, (room f).2.1, ⟨kind, next f, addr, val⟩⟩]) := rfl
  have hroom : Hid (room f = if (openB f).2 then ([], (openB f).1, true) else (tells f (f.getD (old f) zbk).pages ++ [⟨2, 0, 0, old f, rc0⟩], (old f : Int), decide ((f.getD (old f) zbk).worn < 200))) := rfl
  have hol := old_lt4 (flashOk_len hok)
  have hwl : ∀ b ∈ f, b.worn ≤ 200 := fun b hb => (bk_parts hok hb).2.1.2
  have hpl : ∀ b ∈ f, b.pages.length = 4 := fun b hb => (bk_parts hok hb).1
  clear hok
  go_enter Try.func79, Try.ntmps79
  go_wp2_with fail
  refine (hFN _ hF).out.mono ?_
  rintro e w1 ⟨rfl, hb1⟩
  generalize next f = nx at *
  clear hFN
  go_wp2_with fail
  refine (impl_RecOk ⟨kind, nx, addr, val⟩ _).mono ?_
  rintro e w2 ⟨rfl, hb2⟩
  obtain ⟨hc, hfz⟩ := bcell hb2
  have r0 : w2.cell? ⟨w1.heap.size, 0, none⟩ = some (.int .i64 kind) := (hc _ _ (by simp)).trans (by simp)
  have r1 : w2.cell? ⟨w1.heap.size, 1, none⟩ = some (.int .i64 nx) := (hc _ _ (by simp)).trans (by simp)
  have r2 : w2.cell? ⟨w1.heap.size, 2, none⟩ = some (.int .i64 addr) := (hc _ _ (by simp)).trans (by simp)
  have r3 : w2.cell? ⟨w1.heap.size, 3, none⟩ = some (.int .i64 val) := (hc _ _ (by simp)).trans (by simp)
  have hB2 : Below w.heap.size w w2 := (hb1.alloc hb1.size _).trans (hb2.mono (by have := hb1.size; simp; omega))
  have hs1 := hb1.size
  have hs2 : w1.heap.size + 1 ≤ w2.heap.size := by have := hb2.size; simpa using this
  clear hc hfz hb2 hb1
  by_cases hr : recOk ⟨kind, nx, addr, val⟩ = true
  · have hfin2 : Hid (wr f kind addr val = if (room f).2.2 = false then [] else (room f).1 ++ [⟨3, 0, 0, (room f).2.1, ⟨kind, nx, addr, val⟩⟩]) := by
      rw [Hid, hfin.out, hr]; simp
    rw [hr]
    clear hr hfin
    go_wp2_with fail
    refine (hFO _ (hF.below hB2 (Nat.le_refl _))).out.mono ?_
    rintro e w3 ⟨rfl, hb3⟩
    replace r0 := (hb3.cell (p := ⟨w1.heap.size, 0, none⟩) (by show w1.heap.size < _; omega)).trans r0
    replace r1 := (hb3.cell (p := ⟨w1.heap.size, 1, none⟩) (by show w1.heap.size < _; omega)).trans r1
    replace r2 := (hb3.cell (p := ⟨w1.heap.size, 2, none⟩) (by show w1.heap.size < _; omega)).trans r2
    replace r3 := (hb3.cell (p := ⟨w1.heap.size, 3, none⟩) (by show w1.heap.size < _; omega)).trans r3
    have hs3 := hb3.size
    have hB3 := hB2.trans (hb3.mono hB2.size)
    clear hb3 hB2 hFO
    generalize openB f = ob at *
    obtain ⟨bi, bo⟩ := ob
    dsimp only at *
    cases bo
    · rw [if_neg (by decide)] at hroom
      go_wp2_with fail
      refine (hFD _ (hF.below hB3 (Nat.le_refl _))).out.mono ?_
      rintro e w4 ⟨rfl, hb4⟩
      replace r0 := (hb4.cell (p := ⟨w1.heap.size, 0, none⟩) (by show w1.heap.size < _; omega)).trans r0
      replace r1 := (hb4.cell (p := ⟨w1.heap.size, 1, none⟩) (by show w1.heap.size < _; omega)).trans r1
      replace r2 := (hb4.cell (p := ⟨w1.heap.size, 2, none⟩) (by show w1.heap.size < _; omega)).trans r2
      replace r3 := (hb4.cell (p := ⟨w1.heap.size, 3, none⟩) (by show w1.heap.size < _; omega)).trans r3
      have hs4 := hb4.size
      have hB4 := hB3.trans (hb4.mono hB3.size)
      clear hb4 hB3 hFD
      generalize old f = i at *
      have h4 := HL.out
      obtain ⟨B, hBf⟩ := get_some (l := f) (k := i) (by omega)
      rw [getD_of hBf] at hroom
      have hbm := List.mem_of_getElem? hBf
      have hw2 := hwl B hbm
      have HB4 := Lib.hid (hpl B hbm)
      have HB := Lib.hid hBf
      have hi4 : (i : Int) < f.length := by omega
      obtain ⟨hs, hBk⟩ := hF.below hB4 (Nat.le_refl _)
      obtain ⟨g, o, rfl⟩ := hBk.addr (by intro e; rw [e] at hBf; simp at hBf)
      obtain ⟨⟨Ap, cp⟩, _, z0, z1, _, _, hR, _⟩ := hBk.at_ hBf
      dsimp only at z0 hR
      clear hBf hbm h4 hol hwl hpl hBk
      by_cases hw : B.worn = 200
      · have h3 : Hid (wr f kind addr val = []) := by rw [Hid, hfin2.out, hroom.out, hw]; rfl
        rw [hw] at z1
        clear hw hw2
        go_wp2
        go_ret
        rw [h3.out]
        exact ⟨_, rfl, OwnS.nul _ _, hB4⟩
      · have h3 : Hid (wr f kind addr val = (tells f B.pages ++ [⟨2, 0, 0, i, rc0⟩]) ++ [⟨3, 0, 0, i, ⟨kind, nx, addr, val⟩⟩]) := by
          rw [Hid, hfin2.out, hroom.out]
          dsimp only
          rw [if_neg (by simp; omega)]
        have hw' : (B.worn == 200) = false := by simpa using hw
        have hT : Hid (tells f B.pages = [] ++ tells f (B.pages.drop 0)) := rfl
        clear hfin2 hroom hw hw2
        rw [HB4.out] at z0
        go_wp2
        go_loopw [13, 49] (fun u q wr => ∃ (k : Nat) (xs : List Sp) (v : Value), k ≤ 4 ∧ q = .int .i64 k ∧ v = u ∧ xs.length ≤ k ∧ OwnS wr w4.heap.size v xs ∧ Below w4.heap.size w4 wr ∧ Below w.heap.size w wr ∧ Hid (tells f B.pages = xs ++ tells f (B.pages.drop k))) (fun _ q _ => 4 - (intOf q).toNat)
        case atStart => exact ⟨0, [], _, by omega, rfl, rfl, by simp, OwnS.nul _ _, Below.refl _ _, hB4, hT⟩
        case round =>
          clear hT
          obtain ⟨k, xs, v, hk, rfl, rfl, hxk, hO, hb, hB, hT⟩ := hrel
          replace r0 := (hb.cell (p := ⟨w1.heap.size, 0, none⟩) (by show w1.heap.size < _; omega)).trans r0
          replace r1 := (hb.cell (p := ⟨w1.heap.size, 1, none⟩) (by show w1.heap.size < _; omega)).trans r1
          replace r2 := (hb.cell (p := ⟨w1.heap.size, 2, none⟩) (by show w1.heap.size < _; omega)).trans r2
          replace r3 := (hb.cell (p := ⟨w1.heap.size, 3, none⟩) (by show w1.heap.size < _; omega)).trans r3
          have hsr := hb.size
          have hRr := hR.below hb (Nat.le_refl _)
          by_cases hlt : k < 4
          · obtain ⟨p, hq⟩ := get_some (l := B.pages) (k := k) (by have := HB4.out; omega)
            obtain ⟨pb, po, rfl⟩ := hRr.addr (pgs_ne (by intro e; rw [e] at hq; simp at hq))
            obtain ⟨c0, c1, c2, c3, c4⟩ := hRr.pg hq
            have hT1 : Hid (tells f B.pages = (if told f p then xs ++ [tellP p] else xs) ++ tells f (B.pages.drop (k + 1))) := by rw [Hid, hT.out, drop_cons hq, tells_snoc]
            have htd : Hid (told f p = (live f p && decide (p.rc.kind = 1))) := rfl
            have hk4 : (k : Int) < 4 := by omega
            have HQ := Lib.hid hq
            have hFL : ∀ w, Fl w (some ⟨g, o, none⟩) f → Hid (Calls Try.prog 130 #[.slice (some ⟨g, o, none⟩) f.length c, .int .i64 i, .int .i64 k] w fun e w' => e = .returned (.bool (live f p)) ∧ Below w.heap.size w w') := fun w h => impl_FindLive f i k B p _ _ c w rfl HOK.out HB.out HQ.out h
            have e1 : IntKind.i64.wrap ((k : Int) + 1) = (k : Int) + 1 := IntWalk.i64_in _ (by omega)
            clear hq hT hR hRr
            go_wp2_with fail
            refine (impl_isDirty p.rc _).mono ?_
            rintro e w5 ⟨rfl, hb5⟩
            have hBa := (Below.refl wr.heap.size wr).alloc (Nat.le_refl _) (.cells #[.int .i64 p.state, .int .i64 p.rc.kind, .int .i64 p.rc.seq, .int .i64 p.rc.addr, .int .i64 p.rc.val] 119)
            obtain ⟨hc, hfz⟩ := bcell hb5
            have p1 : w5.cell? ⟨wr.heap.size, 1, none⟩ = some (.int .i64 p.rc.kind) := (hc _ _ (by simp)).trans (by simp)
            have p2 : w5.cell? ⟨wr.heap.size, 2, none⟩ = some (.int .i64 p.rc.seq) := (hc _ _ (by simp)).trans (by simp)
            have p3 : w5.cell? ⟨wr.heap.size, 3, none⟩ = some (.int .i64 p.rc.addr) := (hc _ _ (by simp)).trans (by simp)
            have p4 : w5.cell? ⟨wr.heap.size, 4, none⟩ = some (.int .i64 p.rc.val) := (hc _ _ (by simp)).trans (by simp)
            have hs5 : wr.heap.size + 1 ≤ w5.heap.size := by have := hb5.size; simpa using this
            have hB5 : Below wr.heap.size wr w5 := hBa.trans (hb5.mono (by simp))
            have hO5 := hO.below hB5 (Nat.le_refl _)
            clear hc hfz hb5 hBa hO c0 c1 c2 c3 c4
            by_cases hk1 : p.rc.kind = 1
            · rw [show decide (p.rc.kind = 1) = true by simpa using hk1]
              have hk1' := Lib.hid hk1
              rw [hk1] at p1
              clear hk1
              go_wp2_with fail
              refine (hFL _ (hF.below (hB.trans (hB5.mono hB.size)) (Nat.le_refl _))).out.mono ?_
              rintro e w6 ⟨rfl, hb6⟩
              replace p1 := (hb6.cell (p := ⟨wr.heap.size, 1, none⟩) (by show wr.heap.size < _; omega)).trans p1
              replace p2 := (hb6.cell (p := ⟨wr.heap.size, 2, none⟩) (by show wr.heap.size < _; omega)).trans p2
              replace p3 := (hb6.cell (p := ⟨wr.heap.size, 3, none⟩) (by show wr.heap.size < _; omega)).trans p3
              replace p4 := (hb6.cell (p := ⟨wr.heap.size, 4, none⟩) (by show wr.heap.size < _; omega)).trans p4
              have hs6 := hb6.size
              have hB6 := hB5.trans (hb6.mono hB5.size)
              have hO6 := hO5.below hb6 (Nat.le_refl _)
              clear hO5 hB5 hb6 hFL
              generalize live f p = lv at *
              cases lv
              · have hT2 : Hid (tells f B.pages = xs ++ tells f (B.pages.drop (k + 1))) := by
                  rw [Hid, hT1.out, if_neg (by rw [htd.out]; simp)]
                clear hT1 htd
                go_wp2
                go_roundw
                case rel => exact ⟨k + 1, xs, v, by omega, by go_num, rfl, by omega, hO6, hb.trans (hB6.mono hsr), hB.trans (hB6.mono hB.size), hT2⟩
                case measure => simp [intOf]; omega
              · have hT2 : Hid (tells f B.pages = (xs ++ [tellP p]) ++ tells f (B.pages.drop (k + 1))) := by rw [Hid, hT1.out, if_pos (by rw [htd.out, hk1'.out]; simp)]
                clear hT1 htd
                go_wp2_with fail
                refine (impl_diskStep ⟨1, p.rc.seq, p.rc.addr, p.rc.val⟩ _).mono ?_
                rintro e w7 ⟨rfl, hb7⟩
                dsimp only
                have hs7 := hb7.size
                have hB7 := hB6.trans (hb7.mono hB6.size)
                have hO7 := (hO6.below hb7 (Nat.le_refl _)).below ((Below.refl w7.heap.size _).alloc (Nat.le_refl _) (.cells #[.int .i64 1, .int .i64 p.rc.addr, .int .i64 p.rc.val, .int .i64 0, .int .i64 0, .int .i64 0, .int .i64 0, .int .i64 0] 47)) (Nat.le_refl _)
                have hnb : ∀ q, v.ownBlock = some q → w4.heap.size ≤ q := fun q e => (World.ownsRow.lt hO7 q e).1
                have hBs := hB.size
                clear hO6 hb7 hB6
                go_wp2_with (at_builtin; refine wpList_append_lies _ rfl (.tmp 63) (.tmp 67) _ rfl w4.heap.size 47 ib _ 8 64 Try.underlying37 hib hbz0 hbz1 hbz2 rfl (by omega) v xs.length (sps xs) rfl hO7 ⟨w7.heap.size, 0, none⟩ 1 1 (tellP p).vs rfl rfl (World.news_of_block (cs := #[.int .i64 1, .int .i64 p.rc.addr, .int .i64 p.rc.val, .int .i64 0, .int .i64 0, .int .i64 0, .int .i64 0, .int .i64 0]) (t := 47) (fr := (0, 0)) (heap_alloc_new w7 _)) (by simp [Value.oneCell', tellP, Sp.vs, rc0]) (by omega) (by unfold maxLen; omega) (by omega) (by simp; omega) (w7.heap.size + 1) (by simp) ?_; intro g2 c2 w8 hown2 hgrow2 hat2 hlt2)
                have hbb : Below w4.heap.size w7 w8 := ((Below.refl _ _).alloc (by omega) _).grown hgrow2 (by simp; omega) hnb
                have hB8 := (hB7.mono hsr).trans hbb
                have hOS := OwnS.snoc (x := tellP p) rfl hown2
                go_roundw
                case rel => exact ⟨k + 1, xs ++ [tellP p], _, by omega, by go_num, rfl, by simp; omega, hOS, hb.trans hB8, hB.trans (hB8.mono (by omega)), hT2⟩
                case measure => simp [intOf]; omega
            · rw [show decide (p.rc.kind = 1) = false by simpa using hk1]
              have hT2 : Hid (tells f B.pages = xs ++ tells f (B.pages.drop (k + 1))) := by
                rw [Hid, hT1.out, if_neg (by rw [htd.out]; simp [hk1])]
              clear hT1 htd hk1
              go_wp2
              go_roundw
              case rel => exact ⟨k + 1, xs, v, by omega, by go_num, rfl, by omega, hO5, hb.trans (hB5.mono hsr), hB.trans (hB5.mono hB.size), hT2⟩
              case measure => simp [intOf]; omega
          · obtain rfl : k = 4 := by omega
            have hT2 : Hid (tells f B.pages = xs) := by
              rw [Hid, hT.out, List.drop_of_length_le (by rw [HB4.out]; exact Nat.le_refl _)]
              simp [tells]
            rw [hT2.out] at h3
            have hO1 := hO.below ((Below.refl wr.heap.size _).alloc (Nat.le_refl _) (.cells #[.int .i64 2, .int .i64 0, .int .i64 0, .int .i64 i, .int .i64 0, .int .i64 0, .int .i64 0, .int .i64 0] 47)) (Nat.le_refl _)
            have hnb : ∀ q, v.ownBlock = some q → w4.heap.size ≤ q := fun q e => (World.ownsRow.lt hO q e).1
            have hBs := hB.size
            clear hT hR hRr z0 hO
            go_wp2_with (first | (at_builtin; refine wpList_append_lies _ rfl (.tmp 70) (.tmp 73) _ rfl w4.heap.size 47 ib _ 8 64 Try.underlying37 hib hbz0 hbz1 hbz2 rfl (by omega) v xs.length (sps xs) rfl hO1 ⟨wr.heap.size, 0, none⟩ 1 1 (⟨2, 0, 0, i, rc0⟩ : Sp).vs rfl rfl (World.news_of_block (cs := #[.int .i64 2, .int .i64 0, .int .i64 0, .int .i64 i, .int .i64 0, .int .i64 0, .int .i64 0, .int .i64 0]) (t := 47) (fr := (0, 0)) (heap_alloc_new wr _)) (by simp [Value.oneCell', Sp.vs, rc0]) (by omega) (by unfold maxLen; omega) (by omega) (by simp; omega) (wr.heap.size + 1) (by simp) ?_; intro g2 c2 w8 hown2 hgrow2 hat2 hlt2; have hbb : Below w4.heap.size wr w8 := ((Below.refl _ _).alloc (by omega) _).grown hgrow2 (by simp; omega) hnb; have y0 := (hbb.cell (p := ⟨w1.heap.size, 0, none⟩) (by show w1.heap.size < _; omega)).trans r0; have y1 := (hbb.cell (p := ⟨w1.heap.size, 1, none⟩) (by show w1.heap.size < _; omega)).trans r1; have y2 := (hbb.cell (p := ⟨w1.heap.size, 2, none⟩) (by show w1.heap.size < _; omega)).trans r2; have y3 := (hbb.cell (p := ⟨w1.heap.size, 3, none⟩) (by show w1.heap.size < _; omega)).trans r3; have hOS := OwnS.snoc (x := ⟨2, 0, 0, i, rc0⟩) rfl hown2; have hs8 := hbb.size; have hO2 := hOS.below ((Below.refl w8.heap.size _).alloc (Nat.le_refl _) (.cells #[.int .i64 3, .int .i64 0, .int .i64 0, .int .i64 i, .int .i64 kind, .int .i64 nx, .int .i64 addr, .int .i64 val] 47)) (Nat.le_refl _); have hnb2 : ∀ q, (Value.slice (some ⟨g2, 0, none⟩) (xs.length + 1) c2).ownBlock = some q → w4.heap.size ≤ q := fun q e => (World.ownsRow.lt hOS q e).1; have hlx : (xs ++ [(⟨2, 0, 0, i, rc0⟩ : Sp)]).length = xs.length + 1 := (by simp); unfold OwnS at hO2; rw [hlx] at hO2; clear hown2 hgrow2 hOS hO1) | (at_builtin; refine wpList_append_lies _ rfl (.tmp 75) (.tmp 79) _ rfl w4.heap.size 47 ib _ 8 64 Try.underlying37 hib hbz0 hbz1 hbz2 rfl (by omega) (.slice (some ⟨g2, 0, none⟩) (xs.length + 1) c2) (xs.length + 1) (sps (xs ++ [⟨2, 0, 0, i, rc0⟩])) rfl hO2 ⟨w8.heap.size, 0, none⟩ 1 1 (⟨3, 0, 0, i, ⟨kind, nx, addr, val⟩⟩ : Sp).vs rfl rfl (World.news_of_block (cs := #[.int .i64 3, .int .i64 0, .int .i64 0, .int .i64 i, .int .i64 kind, .int .i64 nx, .int .i64 addr, .int .i64 val]) (t := 47) (fr := (0, 0)) (heap_alloc_new w8 _)) (by simp [Value.oneCell', Sp.vs]) (by omega) (by unfold maxLen; omega) (by omega) (by simp; omega) (w8.heap.size + 1) (by simp) ?_; intro g3 c3 w9 hown3 hgrow3 hat3 hlt3))
            have hbb2 : Below w4.heap.size w8 w9 := ((Below.refl _ _).alloc (by omega) _).grown hgrow3 (by simp; omega) hnb2
            have hOS := OwnS.snoc (xs := xs ++ [⟨2, 0, 0, i, rc0⟩]) (x := ⟨3, 0, 0, i, ⟨kind, nx, addr, val⟩⟩) rfl (by rw [hlx]; exact hown3)
            rw [hlx] at hOS
            go_ret
            rw [h3.out]
            exact ⟨_, rfl, hOS.mono (by omega), hB.trans ((hbb.trans hbb2).mono (by omega))⟩
    · rw [if_pos rfl] at hroom
      have h3 : Hid (wr f kind addr val = [⟨3, 0, 0, bi, ⟨kind, nx, addr, val⟩⟩]) := by rw [Hid, hfin2.out, hroom.out]; rfl
      clear hfin2 hroom
      go_wp2
      go_ret
      rw [h3.out]
      exact ⟨_, rfl, OwnS.one w3 w.heap.size (by omega) ⟨3, 0, 0, bi, ⟨kind, nx, addr, val⟩⟩, hB3.alloc hB3.size _⟩
  · have hr' : recOk ⟨kind, nx, addr, val⟩ = false := by simpa using hr
    have h3 : Hid (wr f kind addr val = []) := by rw [Hid, hfin.out, if_pos (.inr hr')]
    rw [hr']
    go_wp2
    go_ret
    rw [h3.out]
    exact ⟨_, rfl, OwnS.nul _ _, hB2⟩
end Go.Proofs.Ytbekihiiildgmaa
open Go.RowKit Go.IntWalk Go.Maps
namespace Go.Proofs.Ytbekihiiildgmaa
set_option linter.unusedVariables false
set_option linter.unusedSimpArgs false
set_option maxHeartbeats 1000000
theorem ok_parts {s : St} (h : storeOk s = true) : s.flash.length = 4 ∧ s.disk.length = 6 ∧ flashOk s.flash = true ∧ (∀ b ∈ s.flash, b.pages.length = 4) ∧ (∀ b ∈ s.flash, most b < 1000000000000) := by
  have k := storeOk_iff.1 h
  exact ⟨flashOk_len k.flash, k.len, k.flash, fun b hb => (bk_parts k.flash hb).1, most_small (flFine_of k.flash)⟩
/-- what the steps are asked of: an ok store -/
def okSteps (s : St) (xs : List Sp) : List Sp := if storeOk s = true then xs else []
def StepsPost (w : World) (xs : List Sp) (e : Ending) (w' : World) : Prop := ∃ v, e = .returned v ∧ OwnS w' w.heap.size v xs ∧ Below w.heap.size w w'
set_option maxRecDepth 20000 in
theorem impl_StepsPut (s : St) (a v : Int) (A D : Option Addr) (n m c d : Nat) (w : World) (hn : n = s.flash.length) (hm : m = s.disk.length) (hF : Fl w A s.flash) (hD : Row w D (ints s.disk)) :
    Calls Try.prog 28 #[.agg #[.slice A n c, .slice D m d], .int .i64 a, .int .i64 v] w (StepsPost w (okSteps s (wr s.flash 1 a v))) := by
  have hF0 : Fl (w.alloc (.cells #[.slice A n c, .slice D m d] 26)) A s.flash := hF.alloc _
  have hD0 : Row (w.alloc (.cells #[.slice A n c, .slice D m d] 26)) D (ints s.disk) := hD.alloc _
  have hSO : Hid (Calls Try.prog 21 #[.agg #[.slice A n c, .slice D m d]] (w.alloc (.cells #[.slice A n c, .slice D m d] 26)) fun e w' => e = .returned (.bool (storeOk s)) ∧ Below (w.alloc (.cells #[.slice A n c, .slice D m d] 26)).heap.size (w.alloc (.cells #[.slice A n c, .slice D m d] 26)) w') := impl_StoreOk s A D n m c d _ hn hm hF0 hD0
  by_cases hok : storeOk s = true
  · have hfin : Hid (okSteps s (wr s.flash 1 a v) = wr s.flash 1 a v) := by unfold Hid okSteps; rw [if_pos hok]
    obtain ⟨h4, h6, hfl, hp4, hms⟩ := ok_parts hok
    obtain rfl : n = 4 := by omega
    obtain rfl : m = 6 := by omega
    rw [hok] at hSO
    have HFL := Lib.hid hfl
    have H4 := Lib.hid h4
    have H6 := Lib.hid h6
    have HP := Lib.hid hp4
    have HM := Lib.hid hms
    have HOK := Lib.hid (storeOk_iff.1 hok)
    clear hok h4 h6 hfl hp4 hms hm hn
    go_enter Try.func28, Try.ntmps28
    go_wp2_with fail
    with_reducible refine hSO.out.mono ?_
    rintro e w1 ⟨rfl, hb⟩
    have hB : Below w.heap.size w w1 := ((Below.refl _ _).alloc (Nat.le_refl _) _).trans (hb.mono (by simp))
    have hz : w.heap.size < w1.heap.size := by have := hb.size; simp at this; omega
    obtain ⟨hc, hfz⟩ := bcell hb
    have x0 : w1.cell? ⟨w.heap.size, 0, none⟩ = some (.slice A 4 c) := (hc _ _ (by simp)).trans (by simp)
    have x1 : w1.cell? ⟨w.heap.size, 1, none⟩ = some (.slice D 6 d) := (hc _ _ (by simp)).trans (by simp)
    have hF1 := hF.below hB (Nat.le_refl _)
    have hD1 := hD.below hB (Nat.le_refl _)
    clear hb hc hfz hSO hF0 hD0
    go_wp2_with fail
    refine (impl_stepsWrite s.flash 1 a v A _ c _ H4.out.symm HFL.out hF1).mono ?_
    rintro e w2 ⟨v, rfl, hO, hb2⟩
    go_wp2
    go_ret
    exact ⟨_, rfl, by rw [hfin.out]; exact hO.mono hB.size, hB.trans (hb2.mono hB.size)⟩
  · have hfin : Hid (okSteps s (wr s.flash 1 a v) = []) := by unfold Hid okSteps; rw [if_neg hok]
    rw [show storeOk s = false by simpa using hok] at hSO
    clear hok hn hm
    go_enter Try.func28, Try.ntmps28
    go_wp2_with fail
    with_reducible refine hSO.out.mono ?_
    rintro e w1 ⟨rfl, hb⟩
    have hB : Below w.heap.size w w1 := ((Below.refl _ _).alloc (Nat.le_refl _) _).trans (hb.mono (by simp))
    have hz : w.heap.size ≤ w1.heap.size := hB.size
    go_wp2
    go_ret
    rw [StepsPost]
    exact ⟨_, rfl, by rw [hfin.out]; exact OwnS.nul _ _, hB⟩
set_option maxRecDepth 20000 in
theorem spec_StepsPut (s : St) (a v : Int) (A D : Option Addr) (n m c d : Nat) (w : World) (hn : n = s.flash.length) (hm : m = s.disk.length) (hl : s.flash.length < 1000000000000) (hF : Fl w A s.flash) (hD : Row w D (ints s.disk)) :
    Calls Try.prog 29 #[.agg #[.slice A n c, .slice D m d], .int .i64 a, .int .i64 v] w (StepsPost w (okSteps s (wr s.flash 1 a v))) := by
  have hF0 : Fl (w.alloc (.cells #[.slice A n c, .slice D m d] 26)) A s.flash := hF.alloc _
  have hD0 : Row (w.alloc (.cells #[.slice A n c, .slice D m d] 26)) D (ints s.disk) := hD.alloc _
  have hSO : Hid (Calls Try.prog 19 #[.agg #[.slice A n c, .slice D m d]] (w.alloc (.cells #[.slice A n c, .slice D m d] 26)) fun e w' => e = .returned (.bool (storeOk s)) ∧ Below (w.alloc (.cells #[.slice A n c, .slice D m d] 26)).heap.size (w.alloc (.cells #[.slice A n c, .slice D m d] 26)) w') := spec_StoreOk s A D n m c d _ hn hm hl hF0 hD0
  by_cases hok : storeOk s = true
  · have hfin : Hid (okSteps s (wr s.flash 1 a v) = wr s.flash 1 a v) := by unfold Hid okSteps; rw [if_pos hok]
    obtain ⟨h4, h6, hfl, hp4, hms⟩ := ok_parts hok
    obtain rfl : n = 4 := by omega
    obtain rfl : m = 6 := by omega
    rw [hok] at hSO
    have HFL := Lib.hid hfl
    have H4 := Lib.hid h4
    have H6 := Lib.hid h6
    have HP := Lib.hid hp4
    have HM := Lib.hid hms
    have HOK := Lib.hid (storeOk_iff.1 hok)
    clear hok h4 h6 hfl hp4 hms hm hn
    go_enter Try.func29, Try.ntmps29
    go_wp2_with fail
    with_reducible refine hSO.out.mono ?_
    rintro e w1 ⟨rfl, hb⟩
    have hB : Below w.heap.size w w1 := ((Below.refl _ _).alloc (Nat.le_refl _) _).trans (hb.mono (by simp))
    have hz : w.heap.size < w1.heap.size := by have := hb.size; simp at this; omega
    obtain ⟨hc, hfz⟩ := bcell hb
    have x0 : w1.cell? ⟨w.heap.size, 0, none⟩ = some (.slice A 4 c) := (hc _ _ (by simp)).trans (by simp)
    have x1 : w1.cell? ⟨w.heap.size, 1, none⟩ = some (.slice D 6 d) := (hc _ _ (by simp)).trans (by simp)
    have hF1 := hF.below hB (Nat.le_refl _)
    have hD1 := hD.below hB (Nat.le_refl _)
    clear hb hc hfz hSO hF0 hD0
    go_wp2_with fail
    refine (spec_l12Write s.flash 1 a v A D c 6 d _ H4.out HP.out HM.out hF1).mono ?_
    rintro e w2 ⟨v, rfl, hO, hb2⟩
    go_wp2
    go_ret
    exact ⟨_, rfl, by rw [hfin.out]; exact hO.mono hB.size, hB.trans (hb2.mono hB.size)⟩
  · have hfin : Hid (okSteps s (wr s.flash 1 a v) = []) := by unfold Hid okSteps; rw [if_neg hok]
    rw [show storeOk s = false by simpa using hok] at hSO
    clear hok hn hm
    go_enter Try.func29, Try.ntmps29
    go_wp2_with fail
    with_reducible refine hSO.out.mono ?_
    rintro e w1 ⟨rfl, hb⟩
    have hB : Below w.heap.size w w1 := ((Below.refl _ _).alloc (Nat.le_refl _) _).trans (hb.mono (by simp))
    have hz : w.heap.size ≤ w1.heap.size := hB.size
    go_wp2
    go_ret
    rw [StepsPost]
    exact ⟨_, rfl, by rw [hfin.out]; exact OwnS.nil _ _ (by omega), hB.alloc hB.size _⟩
theorem OwnS.shape' {w : World} {base : Nat} {v : Value} {xs : List Sp} (h : OwnS w base v xs) : ∃ A c, v = .slice A xs.length c ∧ xs.length ≤ c ∧ Row w A (sps xs) ∧ ∀ b, blk A b → base ≤ b ∧ b < w.heap.size := h.shape
set_option maxRecDepth 20000 in
theorem impl_StepsFlush (s : St) (a : Int) (A D : Option Addr) (n m c d : Nat) (w : World) (hn : n = s.flash.length) (hm : m = s.disk.length) (hF : Fl w A s.flash) (hD : Row w D (ints s.disk)) :
    Calls Try.prog 39 #[.agg #[.slice A n c, .slice D m d], .int .i64 a] w (StepsPost w (okSteps s (flush s a))) := by
  obtain ⟨ib, hib, hbz0, hbz1, hbz2⟩ := info_parts Try.info3_step
  have hF0 : Fl (w.alloc (.cells #[.slice A n c, .slice D m d] 26)) A s.flash := hF.alloc _
  have hD0 : Row (w.alloc (.cells #[.slice A n c, .slice D m d] 26)) D (ints s.disk) := hD.alloc _
  have hSO : Hid (Calls Try.prog 21 #[.agg #[.slice A n c, .slice D m d]] (w.alloc (.cells #[.slice A n c, .slice D m d] 26)) fun e w' => e = .returned (.bool (storeOk s)) ∧ Below (w.alloc (.cells #[.slice A n c, .slice D m d] 26)).heap.size (w.alloc (.cells #[.slice A n c, .slice D m d] 26)) w') := impl_StoreOk s A D n m c d _ hn hm hF0 hD0
  by_cases hok : storeOk s = true
  · have hfin : Hid (okSteps s (flush s a) = flush s a) := by unfold Hid okSteps; rw [if_pos hok]
    obtain ⟨h4, h6, hfl, hp4, hms⟩ := ok_parts hok
    obtain rfl : n = 4 := by omega
    obtain rfl : m = 6 := by omega
    rw [hok] at hSO
    have HFL := Lib.hid hfl
    have H4 := Lib.hid h4
    have H6 := Lib.hid h6
    have HP := Lib.hid hp4
    have HM := Lib.hid hms
    have HOK := Lib.hid (storeOk_iff.1 hok)
    clear hok h4 h6 hfl hp4 hms hm hn
    go_enter Try.func39, Try.ntmps39
    go_wp2_with fail
    with_reducible refine hSO.out.mono ?_
    rintro e w1 ⟨rfl, hb⟩
    have hB : Below w.heap.size w w1 := ((Below.refl _ _).alloc (Nat.le_refl _) _).trans (hb.mono (by simp))
    have hz : w.heap.size < w1.heap.size := by have := hb.size; simp at this; omega
    obtain ⟨hc, hfz⟩ := bcell hb
    have x0 : w1.cell? ⟨w.heap.size, 0, none⟩ = some (.slice A 4 c) := (hc _ _ (by simp)).trans (by simp)
    have x1 : w1.cell? ⟨w.heap.size, 1, none⟩ = some (.slice D 6 d) := (hc _ _ (by simp)).trans (by simp)
    have hF1 := hF.below hB (Nat.le_refl _)
    have hD1 := hD.below hB (Nat.le_refl _)
    clear hb hc hfz hSO hF0 hD0
    have hq : Hid (flush s a = if addrB a = false ∨ dirty s.flash a = false then [] else if wr s.flash 2 a (readV s a) = [] then [] else ⟨1, a, readV s a, 0, rc0⟩ :: wr s.flash 2 a (readV s a)) := rfl
    go_wp2_with fail
    refine (impl_FindLast s.flash a A _ c _ H4.out.symm hF1).mono ?_
    rintro e w2 ⟨rfl, hb2⟩
    replace x0 := (hb2.cell (p := ⟨w.heap.size, 0, none⟩) hz).trans x0
    have hB2 := hB.trans (hb2.mono hB.size)
    have hz2 := hb2.size
    clear hb2 hB x1
    by_cases hfd : addrB a = true ∧ 0 < (last s.flash a).seq
    · obtain ⟨ha, hpos⟩ := hfd
      have hfe : findLast s.flash a = (last s.flash a, true) := by unfold findLast; rw [if_pos ⟨ha, HFL.out⟩]; congr 1; simpa using hpos
      have hra : (last s.flash a).addr = a := (last_found (last_pages HFL.out) hpos).2
      have hdy : Hid (dirty s.flash a = decide ((last s.flash a).kind = 1)) := by unfold Hid dirty; rw [show decide (0 < (last s.flash a).seq) = true by simpa using hpos]; rfl
      have hrv : readV s a = (last s.flash a).val := by unfold readV; rw [if_pos hpos]
      rw [hfe]
      rw [hrv] at hq
      have HRA := Lib.hid hra
      have HA := Lib.hid ha
      generalize last s.flash a = r at *
      clear hfe hra hrv hpos ha
      unfold rcA
      dsimp only
      go_wp2_with fail
      refine (impl_isDirty r _).mono ?_
      rintro e w3 ⟨rfl, hb3⟩
      obtain ⟨hc, hfz⟩ := bcell hb3
      have r0 : w3.cell? ⟨w2.heap.size, 0, none⟩ = some (.int .i64 r.kind) := (hc _ _ (by simp)).trans (by simp)
      have r1 : w3.cell? ⟨w2.heap.size, 1, none⟩ = some (.int .i64 r.seq) := (hc _ _ (by simp)).trans (by simp)
      have r2 : w3.cell? ⟨w2.heap.size, 2, none⟩ = some (.int .i64 r.addr) := (hc _ _ (by simp)).trans (by simp)
      have r3 : w3.cell? ⟨w2.heap.size, 3, none⟩ = some (.int .i64 r.val) := (hc _ _ (by simp)).trans (by simp)
      have y0 : w3.cell? ⟨w.heap.size, 0, none⟩ = some (.slice A 4 c) := (hc _ _ (by simp; omega)).trans (cellP x0 _)
      have hB3 : Below w.heap.size w w3 := (hB2.alloc hB2.size _).trans (hb3.mono (by have := hB2.size; simp; omega))
      have hz3 : w2.heap.size + 1 ≤ w3.heap.size := by have := hb3.size; simpa using this
      clear hb3 hc hfz x0 hB2
      by_cases hk : r.kind = 1
      · rw [show decide (r.kind = 1) = true by simpa using hk]
        have hq2 : Hid (flush s a = if wr s.flash 2 a r.val = [] then [] else ⟨1, a, r.val, 0, rc0⟩ :: wr s.flash 2 a r.val) := by
          rw [Hid, hq.out, if_neg (by rw [HA.out, hdy.out]; simp [hk])]
        rw [hk] at r0
        clear hk hq hdy
        go_wp2_with fail
        refine (impl_stepsWrite s.flash 2 a r.val A _ c _ H4.out.symm HFL.out (hF.below hB3 (Nat.le_refl _))).mono ?_
        rintro e w4 ⟨v, rfl, hO, hb4⟩
        replace r0 := (hb4.cell (p := ⟨w2.heap.size, 0, none⟩) (by show w2.heap.size < _; omega)).trans r0
        replace r1 := (hb4.cell (p := ⟨w2.heap.size, 1, none⟩) (by show w2.heap.size < _; omega)).trans r1
        replace r2 := (hb4.cell (p := ⟨w2.heap.size, 2, none⟩) (by show w2.heap.size < _; omega)).trans r2
        replace r3 := (hb4.cell (p := ⟨w2.heap.size, 3, none⟩) (by show w2.heap.size < _; omega)).trans r3
        have hB4 := hB3.trans (hb4.mono hB3.size)
        have hz4 := hb4.size
        have hwl := wr_len H4.out HP.out 2 a r.val
        generalize wr s.flash 2 a r.val = xs at *
        obtain ⟨A2, c2, rfl, hcap, hRow, hblk⟩ := hO.shape'
        clear hb4 hB3 y0
        by_cases hx : xs = []
        · subst hx
          have h4' : Hid (flush s a = []) := by rw [Hid, hq2.out, if_pos rfl]
          go_wp2
          go_ret
          exact ⟨_, rfl, by rw [hfin.out, h4'.out]; exact OwnS.nul _ _, hB4⟩
        · have h4' : Hid (flush s a = [⟨1, a, r.val, 0, rc0⟩] ++ xs) := by rw [Hid, hq2.out, if_neg hx]; rfl
          have hlen : 0 < xs.length := List.length_pos_iff.2 hx
          have hle : ((xs.length : Int) == 0) = false := by rw [beq_eq_false_iff_ne]; omega
          obtain ⟨g2, o2, rfl⟩ := hRow.addr (by intro e; have := sps_len xs; rw [e] at this; simp at this; omega)
          clear hq2
          go_wp2_with fail
          refine (impl_diskStep ⟨1, r.seq, r.addr, r.val⟩ _).mono ?_
          rintro e w5 ⟨rfl, hb5⟩
          dsimp only
          rw [HRA.out]
          have hB5 := hB4.trans (hb5.mono hB4.size)
          have hz5 := hb5.size
          have hRow5 := hRow.below hb5 (Nat.le_refl _)
          have hlit : OwnS (w5.alloc (.cells #[.int .i64 1, .int .i64 a, .int .i64 r.val, .int .i64 0, .int .i64 0, .int .i64 0, .int .i64 0, .int .i64 0] 47)) w.heap.size (.slice (some ⟨w5.heap.size, 0, none⟩) 1 1) [⟨1, a, r.val, 0, rc0⟩] := OwnS.one w5 w.heap.size (by omega) ⟨1, a, r.val, 0, rc0⟩
          clear hRow hb5 hB4
          go_wp2_with (at_builtin; refine wpList_append_lies _ rfl (.tmp 36) (.tmp 37) _ rfl w.heap.size 47 ib _ 8 64 Try.underlying37 hib hbz0 hbz1 hbz2 rfl (by omega) (.slice (some ⟨w5.heap.size, 0, none⟩) 1 1) 1 (sps [⟨1, a, r.val, 0, rc0⟩]) rfl hlit ⟨g2, o2, none⟩ xs.length c2 (sps xs) rfl (sps_len xs) ((hRow5.alloc _).news) (sps_one xs) hlen (by unfold maxLen; omega) (by omega) (by simp; omega) (w5.heap.size + 1) (by simp) ?_; intro g3 c3 w6 hown2 hgrow2 hat2 hlt2)
          have hbb : Below w5.heap.size w5 w6 := ((Below.refl _ _).alloc (by omega) _).grown hgrow2 (by simp) (by intro q e; cases e; exact Nat.le_refl _)
          have hOS := OwnS.onto (xs := [⟨1, a, r.val, 0, rc0⟩]) rfl hown2
          go_ret
          exact ⟨_, rfl, by rw [hfin.out, h4'.out]; exact hOS, hB5.trans (hbb.mono (by omega))⟩
      · rw [show decide (r.kind = 1) = false by simpa using hk]
        have hq2 : Hid (flush s a = []) := by rw [Hid, hq.out, if_pos (.inr (by rw [hdy.out]; simpa using hk))]
        go_wp2
        go_ret
        exact ⟨_, rfl, by rw [hfin.out, hq2.out]; exact OwnS.nul _ _, hB3⟩
    · have hq2 : Hid (flush s a = []) := by
        rw [Hid, hq.out, if_pos]
        by_cases ha : addrB a = true
        · right; unfold dirty; rw [show decide (0 < (last s.flash a).seq) = false by simpa using fun h => hfd ⟨ha, h⟩]; rfl
        · left; simpa using ha
      have hfe : (findLast s.flash a).2 = false := by
        unfold findLast
        split
        · rename_i h; simpa using fun q => hfd ⟨h.1, q⟩
        · rfl
      rw [hfe]
      clear hfe hq hfd
      generalize (findLast s.flash a).1 = r at *
      unfold rcA
      go_wp2
      go_ret
      exact ⟨_, rfl, by rw [hfin.out, hq2.out]; exact OwnS.nul _ _, hB2.alloc hB2.size _⟩
  · have hfin : Hid (okSteps s (flush s a) = []) := by unfold Hid okSteps; rw [if_neg hok]
    rw [show storeOk s = false by simpa using hok] at hSO
    clear hok hn hm
    go_enter Try.func39, Try.ntmps39
    go_wp2_with fail
    with_reducible refine hSO.out.mono ?_
    rintro e w1 ⟨rfl, hb⟩
    have hB : Below w.heap.size w w1 := ((Below.refl _ _).alloc (Nat.le_refl _) _).trans (hb.mono (by simp))
    have hz : w.heap.size ≤ w1.heap.size := hB.size
    go_wp2
    go_ret
    rw [StepsPost]
    exact ⟨_, rfl, by rw [hfin.out]; exact OwnS.nul _ _, hB⟩
end Go.Proofs.Ytbekihiiildgmaa
open Go.RowKit Go.IntWalk Go.Maps
namespace Go.Proofs.Ytbekihiiildgmaa
set_option linter.unusedVariables false
set_option linter.unusedSimpArgs false
set_option maxHeartbeats 1000000
set_option maxRecDepth 20000 in
theorem impl_StepsFill (s : St) (a : Int) (A D : Option Addr) (n m c d : Nat) (w : World) (hn : n = s.flash.length) (hm : m = s.disk.length) (hF : Fl w A s.flash) (hD : Row w D (ints s.disk)) :
    Calls Try.prog 42 #[.agg #[.slice A n c, .slice D m d], .int .i64 a] w (StepsPost w (okSteps s (fill s a))) := by
  have hF0 : Fl (w.alloc (.cells #[.slice A n c, .slice D m d] 26)) A s.flash := hF.alloc _
  have hD0 : Row (w.alloc (.cells #[.slice A n c, .slice D m d] 26)) D (ints s.disk) := hD.alloc _
  have hSO : Hid (Calls Try.prog 21 #[.agg #[.slice A n c, .slice D m d]] (w.alloc (.cells #[.slice A n c, .slice D m d] 26)) fun e w' => e = .returned (.bool (storeOk s)) ∧ Below (w.alloc (.cells #[.slice A n c, .slice D m d] 26)).heap.size (w.alloc (.cells #[.slice A n c, .slice D m d] 26)) w') := impl_StoreOk s A D n m c d _ hn hm hF0 hD0
  by_cases hok : storeOk s = true
  · have hfin : Hid (okSteps s (fill s a) = fill s a) := by unfold Hid okSteps; rw [if_pos hok]
    obtain ⟨h4, h6, hfl, hp4, hms⟩ := ok_parts hok
    obtain rfl : n = 4 := by omega
    obtain rfl : m = 6 := by omega
    rw [hok] at hSO
    have HFL := Lib.hid hfl
    have H4 := Lib.hid h4
    have H6 := Lib.hid h6
    have HP := Lib.hid hp4
    have HM := Lib.hid hms
    have HOK := Lib.hid (storeOk_iff.1 hok)
    clear hok h4 h6 hfl hp4 hms hm hn
    go_enter Try.func42, Try.ntmps42
    go_wp2_with fail
    with_reducible refine hSO.out.mono ?_
    rintro e w1 ⟨rfl, hb⟩
    have hB : Below w.heap.size w w1 := ((Below.refl _ _).alloc (Nat.le_refl _) _).trans (hb.mono (by simp))
    have hz : w.heap.size < w1.heap.size := by have := hb.size; simp at this; omega
    obtain ⟨hc, hfz⟩ := bcell hb
    have x0 : w1.cell? ⟨w.heap.size, 0, none⟩ = some (.slice A 4 c) := (hc _ _ (by simp)).trans (by simp)
    have x1 : w1.cell? ⟨w.heap.size, 1, none⟩ = some (.slice D 6 d) := (hc _ _ (by simp)).trans (by simp)
    have hF1 := hF.below hB (Nat.le_refl _)
    have hD1 := hD.below hB (Nat.le_refl _)
    clear hb hc hfz hSO hF0 hD0
    by_cases ha : addrB a = true
    · obtain ⟨ha1, ha2⟩ := addrB_iff.1 ha
      have hAc : ∀ w, Hid (Calls Try.prog 87 #[.int .i64 a] w fun e w' => e = .returned (.bool true) ∧ w = w') := fun w => by have := impl_addrOk a w; rw [ha] at this; exact this
      have hq : Hid (fill s a = if addrB a = false ∨ 0 < (last s.flash a).seq then [] else wr s.flash 2 a (s.disk.getD (a - 1).toNat 0)) := rfl
      have hfe : findLast s.flash a = (last s.flash a, decide (0 < (last s.flash a).seq)) := by unfold findLast; rw [if_pos ⟨ha, HFL.out⟩]
      have HFE := Lib.hid hfe
      have HA := Lib.hid ha
      obtain ⟨i, rfl⟩ : ∃ i : Nat, a = i + 1 := ⟨(a - 1).toNat, by omega⟩
      have hi : i < 6 := by omega
      obtain ⟨v, hv⟩ := get_some (l := s.disk) (k := i) (by have := H6.out; omega)
      have hgd : s.disk.getD ((i : Int) + 1 - 1).toNat 0 = v := by rw [show ((i : Int) + 1 - 1).toNat = i by omega, List.getD_eq_getElem?_getD, hv]; rfl
      rw [hgd] at hq
      obtain ⟨db, dO, rfl⟩ := hD1.addr (ints_ne' (by intro e; rw [e] at hv; simp at hv))
      have hi6 : (i : Int) < 6 := by omega
      have HV := Lib.hid hv
      clear hv hgd ha hfe
      go_wp2_with (go_at_call 87; with_reducible refine (hAc _).out.mono ?_; rintro e w2 ⟨rfl, rfl⟩)
      with_reducible refine (impl_FindLast s.flash (i + 1) A _ c _ H4.out.symm hF1).mono ?_
      rintro e w2 ⟨rfl, hb2⟩
      rw [HFE.out]
      replace x0 := (hb2.cell (p := ⟨w.heap.size, 0, none⟩) hz).trans x0
      replace x1 := (hb2.cell (p := ⟨w.heap.size, 1, none⟩) hz).trans x1
      have hB2 := hB.trans (hb2.mono hB.size)
      have hz2 := hb2.size
      obtain ⟨hcv, _⟩ := (hD1.below hb2 (Nat.le_refl _)).int_ HV.out
      have hdb := lt_of_cell hcv
      have hF2 := hF.below hB2 (Nat.le_refl _)
      clear hb2 hB hAc HFE
      generalize last s.flash (i + 1) = x at *
      unfold rcA
      dsimp only
      have hzz : w.heap.size < w2.heap.size := by omega
      by_cases h1 : 0 < x.seq
      · have h3 : Hid (fill s (i + 1) = []) := by rw [Hid, hq.out, if_pos (.inr h1)]
        rw [show decide (0 < x.seq) = true by simpa using h1]
        go_wp2
        go_ret
        exact ⟨_, rfl, by rw [hfin.out, h3.out]; exact OwnS.nul _ _, hB2.alloc hB2.size _⟩
      · have h3 : Hid (fill s (i + 1) = wr s.flash 2 (i + 1) v) := by
          rw [Hid, hq.out, if_neg (by rw [HA.out]; simp; omega)]
        rw [show decide (0 < x.seq) = false by simpa using h1]
        have e1 : IntKind.i64.wrap ((i : Int) + 1 - 1) = i := by rw [show (i : Int) + 1 - 1 = i by omega]; exact IntWalk.i64_in _ (by omega)
        have e2 : IntKind.i64.wrap (i : Int) = i := IntWalk.i64_in _ (by omega)
        have e3 : (i : Int) + 1 - 1 = i := by omega
        have e4 : (0 : Int) ≤ i := by omega
        clear hq h1
        go_wp2
        go_region_with (first | (go_at_call 79; with_reducible refine (impl_stepsWrite s.flash 2 (i + 1) v A _ c _ H4.out.symm HFL.out (Fl.drew' (hF2.alloc _))).mono ?_; rintro e w3 ⟨u, rfl, hO, hb3⟩))
        all_goals
          have hle : w.heap.size ≤ (w2.alloc (.cells #[.int .i64 x.kind, .int .i64 x.seq, .int .i64 x.addr, .int .i64 x.val] 45)).drew.heap.size := by show w.heap.size ≤ (w2.alloc _).heap.size; simp; omega
          have hB3 : Below w.heap.size w w3 := ((hB2.alloc hB2.size _).drew).trans (hb3.mono hle)
          clear hb3
          go_wp2
          go_ret
          exact ⟨_, rfl, by rw [hfin.out, h3.out]; exact hO.mono hle, hB3⟩
    · have ha' : addrB a = false := by simpa using ha
      have hAc : ∀ w, Hid (Calls Try.prog 87 #[.int .i64 a] w fun e w' => e = .returned (.bool false) ∧ w = w') := fun w => by have := impl_addrOk a w; rw [ha'] at this; exact this
      have h3 : Hid (fill s a = []) := by unfold Hid fill; rw [if_pos (.inl ha')]
      clear ha ha'
      go_wp2_with (go_at_call 87; with_reducible refine (hAc _).out.mono ?_; rintro e w2 ⟨rfl, rfl⟩)
      go_ret
      exact ⟨_, rfl, by rw [hfin.out, h3.out]; exact OwnS.nul _ _, hB⟩
  · have hfin : Hid (okSteps s (fill s a) = []) := by unfold Hid okSteps; rw [if_neg hok]
    rw [show storeOk s = false by simpa using hok] at hSO
    clear hok hn hm
    go_enter Try.func42, Try.ntmps42
    go_wp2_with fail
    with_reducible refine hSO.out.mono ?_
    rintro e w1 ⟨rfl, hb⟩
    have hB : Below w.heap.size w w1 := ((Below.refl _ _).alloc (Nat.le_refl _) _).trans (hb.mono (by simp))
    have hz : w.heap.size ≤ w1.heap.size := hB.size
    go_wp2
    go_ret
    rw [StepsPost]
    exact ⟨_, rfl, by rw [hfin.out]; exact OwnS.nul _ _, hB⟩
end Go.Proofs.Ytbekihiiildgmaa
open Go.RowKit Go.IntWalk Go.Maps
namespace Go.Proofs.Ytbekihiiildgmaa
set_option linter.unusedVariables false
set_option linter.unusedSimpArgs false
set_option maxHeartbeats 1000000
set_option maxRecDepth 20000
theorem impl_player_put (s : St) (e : Ev) (A D : Option Addr) (n m c d : Nat) (w : World) (hn : n = s.flash.length) (hm : m = s.disk.length) (hF : Fl w A s.flash) (hD : Row w D (ints s.disk)) :
    Calls Try.prog 71 #[.agg #[.slice A n c, .slice D m d], .agg #[.int .i64 e.kind, .int .i64 e.a, .int .i64 e.b, .int .i64 e.c, .bool e.torn]] w (StepsPost w (okSteps s (wr s.flash 1 e.a e.b))) := by
  have hB0 : Below w.heap.size w ((w.alloc (.cells #[.slice A n c, .slice D m d] 92)).alloc (.cells #[.int .i64 e.kind, .int .i64 e.a, .int .i64 e.b, .int .i64 e.c, .bool e.torn] 28)) := by (repeat (first | (with_reducible exact Below.refl _ _) | (with_reducible assumption) | (refine Below.setCell ?_ (by first | omega | exact hB.size | exact hb.size | (have h := hB.size; simp; omega) | (have h := hb.size; simp; omega) | (simp; omega) | simp) _) | (refine Below.alloc ?_ (by first | omega | exact hB.size | exact hb.size | (have h := hB.size; simp; omega) | (have h := hb.size; simp; omega) | (simp; omega) | simp) _) | (refine Below.drew ?_)))
  have HC := Lib.hid (impl_StepsPut s e.a e.b A D n m c d _ hn hm (hF.below hB0 (Nat.le_refl _)) (hD.below hB0 (Nat.le_refl _)))
  clear hn hm
  go_enter Try.func71, Try.ntmps71
  go_wp2_with fail
  with_reducible refine HC.out.mono ?_
  rintro r w1 ⟨v, rfl, hO, hb⟩
  go_wp2
  go_ret
  exact ⟨_, rfl, hO.mono (by simp; omega), hB0.trans (hb.mono (by simp; omega))⟩
theorem impl_player_flush (s : St) (e : Ev) (A D : Option Addr) (n m c d : Nat) (w : World) (hn : n = s.flash.length) (hm : m = s.disk.length) (hF : Fl w A s.flash) (hD : Row w D (ints s.disk)) :
    Calls Try.prog 72 #[.agg #[.slice A n c, .slice D m d], .agg #[.int .i64 e.kind, .int .i64 e.a, .int .i64 e.b, .int .i64 e.c, .bool e.torn]] w (StepsPost w (okSteps s (flush s e.a))) := by
  have hB0 : Below w.heap.size w ((w.alloc (.cells #[.slice A n c, .slice D m d] 92)).alloc (.cells #[.int .i64 e.kind, .int .i64 e.a, .int .i64 e.b, .int .i64 e.c, .bool e.torn] 28)) := by (repeat (first | (with_reducible exact Below.refl _ _) | (with_reducible assumption) | (refine Below.setCell ?_ (by first | omega | exact hB.size | exact hb.size | (have h := hB.size; simp; omega) | (have h := hb.size; simp; omega) | (simp; omega) | simp) _) | (refine Below.alloc ?_ (by first | omega | exact hB.size | exact hb.size | (have h := hB.size; simp; omega) | (have h := hb.size; simp; omega) | (simp; omega) | simp) _) | (refine Below.drew ?_)))
  have HC := Lib.hid (impl_StepsFlush s e.a A D n m c d _ hn hm (hF.below hB0 (Nat.le_refl _)) (hD.below hB0 (Nat.le_refl _)))
  clear hn hm
  go_enter Try.func72, Try.ntmps72
  go_wp2_with fail
  with_reducible refine HC.out.mono ?_
  rintro r w1 ⟨v, rfl, hO, hb⟩
  go_wp2
  go_ret
  exact ⟨_, rfl, hO.mono (by simp; omega), hB0.trans (hb.mono (by simp; omega))⟩
theorem impl_player_fill (s : St) (e : Ev) (A D : Option Addr) (n m c d : Nat) (w : World) (hn : n = s.flash.length) (hm : m = s.disk.length) (hF : Fl w A s.flash) (hD : Row w D (ints s.disk)) :
    Calls Try.prog 73 #[.agg #[.slice A n c, .slice D m d], .agg #[.int .i64 e.kind, .int .i64 e.a, .int .i64 e.b, .int .i64 e.c, .bool e.torn]] w (StepsPost w (okSteps s (fill s e.a))) := by
  have hB0 : Below w.heap.size w ((w.alloc (.cells #[.slice A n c, .slice D m d] 92)).alloc (.cells #[.int .i64 e.kind, .int .i64 e.a, .int .i64 e.b, .int .i64 e.c, .bool e.torn] 28)) := by (repeat (first | (with_reducible exact Below.refl _ _) | (with_reducible assumption) | (refine Below.setCell ?_ (by first | omega | exact hB.size | exact hb.size | (have h := hB.size; simp; omega) | (have h := hb.size; simp; omega) | (simp; omega) | simp) _) | (refine Below.alloc ?_ (by first | omega | exact hB.size | exact hb.size | (have h := hB.size; simp; omega) | (have h := hb.size; simp; omega) | (simp; omega) | simp) _) | (refine Below.drew ?_)))
  have HC := Lib.hid (impl_StepsFill s e.a A D n m c d _ hn hm (hF.below hB0 (Nat.le_refl _)) (hD.below hB0 (Nat.le_refl _)))
  clear hn hm
  go_enter Try.func73, Try.ntmps73
  go_wp2_with fail
  with_reducible refine HC.out.mono ?_
  rintro r w1 ⟨v, rfl, hO, hb⟩
  go_wp2
  go_ret
  exact ⟨_, rfl, hO.mono (by simp; omega), hB0.trans (hb.mono (by simp; omega))⟩
theorem impl_PlaySteps (s : St) (e : Ev) (A D : Option Addr) (n m c d : Nat) (w : World) (hn : n = s.flash.length) (hm : m = s.disk.length) (hF : Fl w A s.flash) (hD : Row w D (ints s.disk)) :
    Calls Try.prog 24 #[.agg #[.slice A n c, .slice D m d], .agg #[.int .i64 e.kind, .int .i64 e.a, .int .i64 e.b, .int .i64 e.c, .bool e.torn]] w (StepsPost w (okSteps s (stepsOf s e))) := by
  have hmf : ∀ (fn : Fn) (first cap : Array Value) (w : World), (Instr.makeFunc fn first cap).run Try.prog w = .ok (.func fn first cap) w := fun _ _ _ _ => rfl
  have hB0 : Below w.heap.size w ((((w.alloc (.cells #[.slice A n c, .slice D m d] 26)).alloc (.cells #[.int .i64 e.kind, .int .i64 e.a, .int .i64 e.b, .int .i64 e.c, .bool e.torn] 28)).alloc (.cells #[.slice A n c, .slice D m d] 92)).alloc (.cells #[.nilFunc, .func (.func 71) #[.agg #[.slice A n c, .slice D m d]] #[], .func (.func 72) #[.agg #[.slice A n c, .slice D m d]] #[], .func (.func 73) #[.agg #[.slice A n c, .slice D m d]] #[]] 94)) := by (repeat (first | (with_reducible exact Below.refl _ _) | (with_reducible assumption) | (refine Below.setCell ?_ (by first | omega | exact hB.size | exact hb.size | (have h := hB.size; simp; omega) | (have h := hb.size; simp; omega) | (simp; omega) | simp) _) | (refine Below.alloc ?_ (by first | omega | exact hB.size | exact hb.size | (have h := hB.size; simp; omega) | (have h := hb.size; simp; omega) | (simp; omega) | simp) _) | (refine Below.drew ?_)))
  have hF0 : Fl ((((w.alloc (.cells #[.slice A n c, .slice D m d] 26)).alloc (.cells #[.int .i64 e.kind, .int .i64 e.a, .int .i64 e.b, .int .i64 e.c, .bool e.torn] 28)).alloc (.cells #[.slice A n c, .slice D m d] 92)).alloc (.cells #[.nilFunc, .func (.func 71) #[.agg #[.slice A n c, .slice D m d]] #[], .func (.func 72) #[.agg #[.slice A n c, .slice D m d]] #[], .func (.func 73) #[.agg #[.slice A n c, .slice D m d]] #[]] 94)).drew A s.flash := (hF.below hB0 (Nat.le_refl _)).drew'
  have hD0 : Row ((((w.alloc (.cells #[.slice A n c, .slice D m d] 26)).alloc (.cells #[.int .i64 e.kind, .int .i64 e.a, .int .i64 e.b, .int .i64 e.c, .bool e.torn] 28)).alloc (.cells #[.slice A n c, .slice D m d] 92)).alloc (.cells #[.nilFunc, .func (.func 71) #[.agg #[.slice A n c, .slice D m d]] #[], .func (.func 72) #[.agg #[.slice A n c, .slice D m d]] #[], .func (.func 73) #[.agg #[.slice A n c, .slice D m d]] #[]] 94)).drew D (ints s.disk) := (hD.below hB0 (Nat.le_refl _)).drew
  have H1 := Lib.hid (impl_player_put s e A D n m c d _ hn hm hF0 hD0)
  have H2 := Lib.hid (impl_player_flush s e A D n m c d _ hn hm hF0 hD0)
  have H3 := Lib.hid (impl_player_fill s e A D n m c d _ hn hm hF0 hD0)
  clear hn hm hF0 hD0 hF hD
  obtain ⟨k, a, b, ec, t⟩ := e
  dsimp only at *
  by_cases h1 : k = 1
  · subst h1
    have hq : Hid (stepsOf s ⟨1, a, b, ec, t⟩ = wr s.flash 1 a b) := rfl
    go_enter Try.func24, Try.ntmps24
    go_wp2
    go_region_with (first | (go_at_call 71; (with_reducible refine H1.out.mono ?_); rintro r w1 ⟨v, rfl, hO, hb⟩))
    all_goals
      go_wp2
      go_ret
      exact ⟨_, rfl, by rw [hq.out]; exact hO.mono hB0.size, hB0.drew.trans (hb.mono hB0.size)⟩
  by_cases h2 : k = 2
  · subst h2
    have hq : Hid (stepsOf s ⟨2, a, b, ec, t⟩ = flush s a) := rfl
    go_enter Try.func24, Try.ntmps24
    go_wp2
    go_region_with (first | (go_at_call 72; (with_reducible refine H2.out.mono ?_); rintro r w1 ⟨v, rfl, hO, hb⟩))
    all_goals
      go_wp2
      go_ret
      exact ⟨_, rfl, by rw [hq.out]; exact hO.mono hB0.size, hB0.drew.trans (hb.mono hB0.size)⟩
  by_cases h3 : k = 3
  · subst h3
    have hq : Hid (stepsOf s ⟨3, a, b, ec, t⟩ = fill s a) := rfl
    go_enter Try.func24, Try.ntmps24
    go_wp2
    go_region_with (first | (go_at_call 73; (with_reducible refine H3.out.mono ?_); rintro r w1 ⟨v, rfl, hO, hb⟩))
    all_goals
      go_wp2
      go_ret
      exact ⟨_, rfl, by rw [hq.out]; exact hO.mono hB0.size, hB0.drew.trans (hb.mono hB0.size)⟩
  have hq : Hid (okSteps s (stepsOf s ⟨k, a, b, ec, t⟩) = []) := by
    unfold Hid stepsOf okSteps
    dsimp only
    rw [if_neg h1, if_neg h2, if_neg h3]
    split <;> rfl
  have hk : k < 1 ∨ 3 < k := by omega
  rcases hk with hk | hk
  · go_enter Try.func24, Try.ntmps24
    go_wp2
    go_ret
    exact ⟨_, rfl, by rw [hq.out]; exact OwnS.nul _ _, hB0⟩
  · have hk2 : ¬ k < 1 := by omega
    go_enter Try.func24, Try.ntmps24
    go_wp2
    go_ret
    exact ⟨_, rfl, by rw [hq.out]; exact OwnS.nul _ _, hB0⟩
end Go.Proofs.Ytbekihiiildgmaa
open Go.RowKit Go.IntWalk Go.Maps
namespace Go.Proofs.Ytbekihiiildgmaa
set_option linter.unusedVariables false
set_option linter.unusedSimpArgs false
set_option maxHeartbeats 2000000
set_option maxRecDepth 20000
/-- a store in a box -/
def BoxSt (w : World) (lo ob : Nat) (t : St) : Prop :=
  ∃ A c D d hs, w.cell? ⟨ob, 0, none⟩ = some (.slice A 4 c) ∧ w.cell? ⟨ob, 1, none⟩ = some (.slice D 6 d) ∧ w.frozen? ⟨ob, 0, none⟩ = false ∧ w.frozen? ⟨ob, 1, none⟩ = false ∧ Bks w A t.flash hs ∧ (∀ b, fblk A hs b → lo ≤ b ∧ b ≠ ob) ∧ Row w D (ints t.disk) ∧ ∀ b, blk D b → lo ≤ b ∧ b ≠ ob
theorem BoxSt.below {w w' : World} {lo ob B : Nat} {t : St} (h : BoxSt w lo ob t) (hb : Below B w w') (hB : w.heap.size ≤ B) : BoxSt w' lo ob t := by
  obtain ⟨A, c, D, d, hs, o0, o1, f0, f1, hBk, h1, hD, h2⟩ := h
  have hob := lt_of_cell o0
  exact ⟨A, c, D, d, hs, (hb.cell (p := ⟨ob, 0, none⟩) (by show ob < B; omega)).trans o0, (hb.cell (p := ⟨ob, 1, none⟩) (by show ob < B; omega)).trans o1, (hb.frozen (p := ⟨ob, 0, none⟩) (by show ob < B; omega)).trans f0, (hb.frozen (p := ⟨ob, 1, none⟩) (by show ob < B; omega)).trans f1, hBk.below hb hB, h1, hD.below hb hB, h2⟩
theorem BoxSt.alloc {w : World} {lo ob : Nat} {t : St} (h : BoxSt w lo ob t) (o : Obj) : BoxSt (w.alloc o) lo ob t := h.below (B := w.heap.size) ((Below.refl _ _).alloc (Nat.le_refl _) _) (Nat.le_refl _)
theorem BoxSt.put {w w' : World} {lo ob : Nat} {t t' : St} {A D : Option Addr} {c d : Nat} (h : BoxSt w lo ob t) (hF : FlAt w (ob + 1) A t'.flash) (hD : Row w D (ints t'.disk)) (hd : ∀ b, blk D b → ob + 1 ≤ b) (hl : lo ≤ ob) (hw : w' = (w.setCell ⟨ob, 0, none⟩ (.slice A 4 c)).setCell ⟨ob, 1, none⟩ (.slice D 6 d)) : BoxSt w' lo ob t' := by
  obtain ⟨_, _, _, _, _, o0, o1, f0, f1, _⟩ := h
  obtain ⟨hs, hBk, hlo⟩ := hF
  have hW : Wrote w w' ob 0 [.slice A 4 c, .slice D 6 d] := by
    rw [hw]
    exact wrote_setRow ob [.slice A 4 c, .slice D 6 d] 0 w (fun j hj => by
      match j, hj with
      | 0, _ => exact ⟨_, o0⟩
      | 1, _ => exact ⟨_, o1⟩)
  refine ⟨A, c, D, d, hs, hW.new_ 0 _ rfl, hW.new_ 1 _ rfl, (hW.frozen _).trans f0, (hW.frozen _).trans f1, hBk.keep fun b hb hl => hW.block b ?_, fun b hb => (by have := hlo b hb; exact ⟨by omega, by omega⟩), hD.keep fun b hb hl => hW.block b (by have := hd b hb; omega), fun b hb => (by have := hd b hb; exact ⟨by omega, by omega⟩)⟩
  have hf : fblk A hs b := by
    rcases hb with hy | ⟨z, hz, hy⟩
    · exact .inl hy
    · obtain ⟨j, hj⟩ := List.getElem?_of_mem hz
      exact .inr ⟨j, z, hj, hy⟩
  have := hlo b hf
  omega
theorem box_cells {w : World} {lo ob : Nat} {t : St} {A D : Option Addr} {c d : Nat} (h : BoxSt w lo ob t) : ((w.setCell ⟨ob, 0, none⟩ (.slice A 4 c)).setCell ⟨ob, 1, none⟩ (.slice D 6 d)).cell? ⟨ob, 0, none⟩ = some (.slice A 4 c) ∧ ((w.setCell ⟨ob, 0, none⟩ (.slice A 4 c)).setCell ⟨ob, 1, none⟩ (.slice D 6 d)).cell? ⟨ob, 1, none⟩ = some (.slice D 6 d) ∧
    ((w.setCell ⟨ob, 0, none⟩ (.slice A 4 c)).setCell ⟨ob, 1, none⟩ (.slice D 6 d)).frozen? ⟨ob, 0, none⟩ = false ∧ ((w.setCell ⟨ob, 0, none⟩ (.slice A 4 c)).setCell ⟨ob, 1, none⟩ (.slice D 6 d)).frozen? ⟨ob, 1, none⟩ = false := by
  obtain ⟨_, _, _, _, _, o0, o1, f0, f1, _⟩ := h
  have hW : Wrote w ((w.setCell ⟨ob, 0, none⟩ (.slice A 4 c)).setCell ⟨ob, 1, none⟩ (.slice D 6 d)) ob 0 [.slice A 4 c, .slice D 6 d] :=
    wrote_setRow ob [.slice A 4 c, .slice D 6 d] 0 w (fun j hj => by
      match j, hj with
      | 0, _ => exact ⟨_, o0⟩
      | 1, _ => exact ⟨_, o1⟩)
  exact ⟨hW.new_ 0 _ rfl, hW.new_ 1 _ rfl, (hW.frozen _).trans f0, (hW.frozen _).trans f1⟩
theorem BoxSt.of {w : World} {lo ob : Nat} {t : St} {A D : Option Addr} {c d : Nat} (o0 : w.cell? ⟨ob, 0, none⟩ = some (.slice A 4 c)) (o1 : w.cell? ⟨ob, 1, none⟩ = some (.slice D 6 d)) (f0 : w.frozen? ⟨ob, 0, none⟩ = false) (f1 : w.frozen? ⟨ob, 1, none⟩ = false) (hF : FlAt w (ob + 1) A t.flash) (hD : Row w D (ints t.disk)) (hd : ∀ b, blk D b → ob + 1 ≤ b) (hl : lo ≤ ob) : BoxSt w lo ob t := by
  obtain ⟨hs, hBk, hlo⟩ := hF
  exact ⟨A, c, D, d, hs, o0, o1, f0, f1, hBk, fun b hb => (by have := hlo b hb; exact ⟨by omega, by omega⟩), hD, fun b hb => (by have := hd b hb; exact ⟨by omega, by omega⟩)⟩
theorem FlAt.keep {w w' : World} {lo : Nat} {A : Option Addr} {f : List Bk} (h : FlAt w lo A f) (hk : ∀ b, lo ≤ b → b < w.heap.size → w'.heap[b]? = w.heap[b]?) : FlAt w' lo A f := by
  obtain ⟨hs, hBk, hlo⟩ := h
  refine ⟨hs, hBk.keep fun b hb hl => hk b (hlo b ?_) hl, hlo⟩
  rcases hb with hy | ⟨z, hz, hy⟩
  · exact .inl hy
  · obtain ⟨j, hj⟩ := List.getElem?_of_mem hz
    exact .inr ⟨j, z, hj, hy⟩
theorem BoxSt.new {w : World} {lo c d : Nat} {A D : Option Addr} {t : St} (hO : OSt w lo w.heap.size A t.flash D t.disk) : BoxSt (w.alloc (.cells #[.slice A 4 c, .slice D 6 d] 26)) lo w.heap.size t := by
  obtain ⟨hs, hBk, hApt, hD, hdb⟩ := hO
  exact ⟨A, c, D, d, hs, by simp, by simp, by simp, by simp, hBk.alloc _, fun b hb => (by have := hApt.fblk hb; exact ⟨by omega, by omega⟩), hD.alloc _, fun b hb => (by have := hdb b hb; exact ⟨this.1, by omega⟩)⟩
theorem upto_okay {s : St} (h : Okay s) : ∀ k, k ≤ 6 → Okay (upto s k)
  | 0, _ => h
  | k + 1, hk => (doFlush_flu (upto_okay h k (by omega)) (a := (k : Int) + 1) (by omega)).ok
theorem run_append_zero {P : Program} (t ty elem : TypeId) (i : TypeInfo) (A B : Option Addr) (n c cb : Nat) (hu : P.underlying t = some (.slice elem)) (hi : P.info? elem = some i) (hc : n ≤ c) (w : World) :
    (Builtin.append_ #[t, t] ty #[.slice A n c, .slice B 0 cb]).run P w = .ok (.slice A n c) w := by
  have hf : (Builtin.firstCells i.size 0 (.slice B 0 cb)).run P w = .ok #[] w := by
    cases B with
    | none => simp [Builtin.firstCells]
    | some b => simp [Builtin.firstCells, loadCells, loadCellsFrom]
  cases A with
  | none => simp [Builtin.append_, run_underlying hu, sizeOf, typeInfo, hi, Builtin.lenOf, hc, hf]
  | some a => simp [Builtin.append_, run_underlying hu, sizeOf, typeInfo, hi, Builtin.lenOf, hc, hf, storeCells]
theorem wpList_append_zero {P : Program} {w : World} {ops : Array Oper} {rest : List Oper} {o : Oper} {a : Act} {Q : Exit → Act → World → Prop} (hgd : o.guard = none) (s x : Operand) (t elem : TypeId) (ho : o.op = .call { callee := .builtin .append, args := #[s, x], argTypes := #[t, t] })
    (i : TypeInfo) (A B : Option Addr) (n c cb : Nat) (hu : P.underlying t = some (.slice elem)) (hi : P.info? elem = some i) (hs : a.eval s = .slice A n c) (hx : a.eval x = .slice B 0 cb) (hc : n ≤ c) (h : wpList P ops Q rest (a.put o.dst (.slice A n c)) w) : wpList P ops Q (o :: rest) a w := by
  refine wpList_plain hgd fun K hK => ?_
  have hrun := run_append_zero (P := P) t o.type elem i A B n c cb hu hi hc w
  unfold Oper.wp execOp
  simp only [ho, resolve, invoke, builtin, Sem.run_bind, Sem.run_pure, Result.andThen_ok, List.map_toArray, List.map_cons, List.map_nil, hs, hx, hrun]
  exact hK _ _ h
/-- a store, and steps: what the play's inner functions answer -/
def PlaysPost (t : St) (w : World) (e : Ending) (w' : World) : Prop :=
  ∃ A c D d v, e = .returned (.tuple #[.agg #[.slice A 4 c, .slice D 6 d], v]) ∧ FlAt w' w.heap.size A t.flash ∧ Row w' D (ints t.disk) ∧ (∀ b, blk D b → w.heap.size ≤ b) ∧ Below w.heap.size w w'
theorem flush_whole {t : St} (h : Okay t) (a : Int) : toR t (flush t a) (flush t a).length false = (doFlush t a, true) := by
  have hb : allB (flush t a) = true := steps_allB h ⟨2, a, 0, 0, false⟩
  unfold toR
  rw [if_neg (by rintro (e | e | e); omega; rw [storeOk_iff.2 h] at e; cases e; rw [hb] at e; cases e)]
  rfl
theorem okSteps_ok {t : St} (h : Okay t) (xs : List Sp) : okSteps t xs = xs := by unfold okSteps; rw [if_pos (storeOk_iff.2 h)]
theorem FlAt.below {w w' : World} {lo lo' B : Nat} {A : Option Addr} {f : List Bk} (h : FlAt w lo A f) (hb : Below B w w') (hB : w.heap.size ≤ B) (hl : lo' ≤ lo) : FlAt w' lo' A f := by
  obtain ⟨hs, h1, h2⟩ := h
  exact ⟨hs, h1.below hb hB, fun b hb => Nat.le_trans hl (h2 b hb)⟩
theorem Row.lo {w : World} {A : Option Addr} {vs : List Value} (h : Row w A vs) (hn : vs ≠ []) : ∀ b, blk A b → b < w.heap.size := fun b hb => h.lt hn hb
theorem impl_playAll (s : St) (A D : Option Addr) (c d : Nat) (w : World) (hs : Okay s) (hF : Fl w A s.flash) (hD : Row w D (ints s.disk)) :
    Calls Try.prog 109 #[.agg #[.slice A 4 c, .slice D 6 d]] w (PlaysPost (doEvery s) w) := by
  obtain ⟨ib, hib, hbz0, hbz1, hbz2⟩ := info_parts Try.info3_step
  have hB0 : Below w.heap.size w ((w.alloc (.cells #[.slice A 4 c, .slice D 6 d] 26)).alloc (.cells #[.slice none 0 0, .slice none 0 0] 26)) := by (repeat (first | (with_reducible exact Below.refl _ _) | (with_reducible assumption) | (refine Below.setCell ?_ (by first | omega | exact hB.size | exact hb.size | (have h := hB.size; simp; omega) | (have h := hb.size; simp; omega) | (simp; omega) | simp) _) | (refine Below.alloc ?_ (by first | omega | exact hB.size | exact hb.size | (have h := hB.size; simp; omega) | (have h := hb.size; simp; omega) | (simp; omega) | simp) _) | (refine Below.drew ?_)))
  have HSC := Lib.hid (impl_storeCopy s A D c d _ hs.fine (hF.below hB0 (Nat.le_refl _)) (hD.below hB0 (Nat.le_refl _)))
  have HS := Lib.hid hs
  clear hs hF hD
  go_enter Try.func109, Try.ntmps109
  go_wp2_with fail
  with_reducible refine HSC.out.mono ?_
  rintro e w1 ⟨g0, d0, rfl, hO, hb1⟩
  have hs1 : w.heap.size + 2 ≤ w1.heap.size := by have := hb1.size; simpa using this
  have hB1 : Below w.heap.size w w1 := hB0.trans (hb1.mono (by simp; omega))
  obtain ⟨hc1, hf1⟩ := bcell hb1
  have r0 : w1.cell? ⟨w.heap.size + 1, 0, none⟩ = some (.slice none 0 0) := (hc1 _ _ (by simp)).trans (by simp)
  have r1 : w1.cell? ⟨w.heap.size + 1, 1, none⟩ = some (.slice none 0 0) := (hc1 _ _ (by simp)).trans (by simp)
  have q0 : w1.frozen? ⟨w.heap.size + 1, 0, none⟩ = false := (hf1 _ _ (by simp)).trans (by simp)
  have q1 : w1.frozen? ⟨w.heap.size + 1, 1, none⟩ = false := (hf1 _ _ (by simp)).trans (by simp)
  have hbx := BoxSt.new (c := 4) (d := 6) (t := s) (lo := w.heap.size + 2) (hO.mono (by simp) (Nat.le_refl _))
  clear HSC hO hb1 hc1 hf1 hB0
  go_wp2
  go_loopw [5, 6] (fun u q wr => ∃ (k : Nat) (ys : List Sp) (v : Value), k ≤ 6 ∧ q = .int .i64 (k + 1) ∧ v = u ∧ ys.length ≤ 7 * k ∧ OwnS wr (w1.heap.size + 1) v ys ∧ BoxSt wr (w.heap.size + 2) w1.heap.size (upto s k) ∧ Below w1.heap.size w1 wr ∧ w1.heap.size < wr.heap.size) (fun _ q _ => 7 - (intOf q).toNat)
  case atStart => exact ⟨0, [], _, by omega, rfl, rfl, by simp, OwnS.nul _ _, hbx, by (repeat (first | (with_reducible exact Below.refl _ _) | (with_reducible assumption) | (refine Below.setCell ?_ (by first | omega | exact hB.size | exact hb.size | (have h := hB.size; simp; omega) | (have h := hb.size; simp; omega) | (simp; omega) | simp) _) | (refine Below.alloc ?_ (by first | omega | exact hB.size | exact hb.size | (have h := hB.size; simp; omega) | (have h := hb.size; simp; omega) | (simp; omega) | simp) _) | (refine Below.drew ?_))), by simp⟩
  case round =>
    obtain ⟨k, ys, v, hk, rfl, rfl, hyl, hO, hX, hB, hz⟩ := hrel
    clear hbx
    have hBW := hB1.trans (hB.mono hB1.size)
    have rr0 := (hB.cell (p := ⟨w.heap.size + 1, 0, none⟩) (by show w.heap.size + 1 < _; omega)).trans r0
    have rr1 := (hB.cell (p := ⟨w.heap.size + 1, 1, none⟩) (by show w.heap.size + 1 < _; omega)).trans r1
    have qq0 := (hB.frozen (p := ⟨w.heap.size + 1, 0, none⟩) (by show w.heap.size + 1 < _; omega)).trans q0
    have qq1 := (hB.frozen (p := ⟨w.heap.size + 1, 1, none⟩) (by show w.heap.size + 1 < _; omega)).trans q1
    have hbs := hB.size
    have hOk := upto_okay HS.out k hk
    have HX := Lib.hid hX
    obtain ⟨Ao, co, Do, dd, hso, o0, o1, f0, f1, hBk, _, hDo, _⟩ := hX
    by_cases hlt : k < 6
    · have hk1 : (k : Int) + 1 ≤ 6 := by omega
      have hn4 : 4 = (upto s k).flash.length := (flashOk_len hOk.flash).symm
      have hm6 : 6 = (upto s k).disk.length := hOk.len.symm
      have HFLU := Lib.hid (impl_StepsFlush (upto s k) (k + 1) Ao Do 4 6 co dd wr hn4 hm6 ⟨hso, hBk⟩ hDo)
      rw [okSteps_ok hOk] at HFLU
      have hfl := flush_len hOk.fine (k + 1)
      have hwh := Lib.hid (flush_whole hOk (k + 1))
      have hup : Hid (doFlush (upto s k) (k + 1) = upto s (k + 1)) := rfl
      have HOK := Lib.hid hOk
      have HN4 := Lib.hid hn4
      have HM6 := Lib.hid hm6
      have HBK := Lib.hid hBk
      have HDO := Lib.hid hDo
      have e1 : IntKind.i64.wrap ((k : Int) + 1 + 1) = (k : Int) + 1 + 1 := IntWalk.i64_in _ (by omega)
      clear hn4 hm6 hOk hBk hDo
      go_wp2_with fail
      with_reducible refine HFLU.out.mono ?_
      rintro e w2 ⟨v2, rfl, hO2, hb2⟩
      generalize flush (upto s k) (k + 1) = xs at *
      obtain ⟨V, cs, rfl, hcs, hRow, hblk⟩ := hO2.shape
      have hs2 := hb2.size
      have hX2 := HX.out.below hb2 (Nat.le_refl _)
      have hOv := hO.below hb2 (Nat.le_refl _)
      have hB2 := hB.trans (hb2.mono hbs)
      replace o0 := (hb2.cell (p := ⟨w1.heap.size, 0, none⟩) hz).trans o0
      replace o1 := (hb2.cell (p := ⟨w1.heap.size, 1, none⟩) hz).trans o1
      have HTO := Lib.hid (impl_StepsTo (upto s k) xs xs.length false Ao Do V 4 6 co dd cs w2 HN4.out HM6.out (by omega) (Fl.below ⟨hso, HBK.out⟩ hb2 (Nat.le_refl _)) (HDO.out.below hb2 (Nat.le_refl _)) hRow)
      rw [hwh.out, hup.out] at HTO
      clear HFLU hwh hb2 hO HX
      go_wp2_with fail
      with_reducible refine HTO.out.mono ?_
      rintro e w3 ⟨A3, c3, D3, d3, rfl, hF3, hD3, hl3, hb3⟩
      have hOk3 := upto_okay HS.out (k + 1) (by omega)
      dsimp only at hF3 hD3
      rw [show ((upto s (k + 1), true) : St × Bool).1.flash.length = 4 from flashOk_len hOk3.flash, show ((upto s (k + 1), true) : St × Bool).1.disk.length = 6 from hOk3.len]
      have hs3 := hb3.size
      have hX3 := hX2.below hb3 (Nat.le_refl _)
      have hO3 := hOv.below hb3 (Nat.le_refl _)
      have hRow3 := hRow.below hb3 (Nat.le_refl _)
      have hB3 := hB2.trans (hb3.mono (by omega))
      have hF4 : FlAt w3 (w1.heap.size + 1) A3 (upto s (k + 1)).flash := hF3.below (Below.refl w3.heap.size _) (Nat.le_refl _) (by omega)
      have hX5 := Lib.hid ((hX3.put (c := c3) (d := d3) hF4 hD3 (fun b hb => by have := hl3 b hb; omega) (by omega) rfl).alloc (.cells #[.slice A3 4 c3, .slice D3 6 d3] 26))
      have hX3' := hX3
      obtain ⟨_, _, _, _, _, p0, p1, p2, p3, _⟩ := hX3'
      have hO4 : OwnS (((w3.setCell ⟨w1.heap.size, 0, none⟩ (.slice A3 4 c3)).setCell ⟨w1.heap.size, 1, none⟩ (.slice D3 6 d3)).alloc (.cells #[.slice A3 4 c3, .slice D3 6 d3] 26)) (w1.heap.size + 1) v ys := World.ownsRow.alloc (ownsRow_setCell_other (a := ⟨w1.heap.size, 1, none⟩) (ownsRow_setCell_other (a := ⟨w1.heap.size, 0, none⟩) hO3 (fun e => by have := (World.ownsRow.lt hO3 _ e).1; dsimp only at this; omega) (.slice A3 4 c3)) (fun e => by have := (World.ownsRow.lt hO3 _ e).1; dsimp only at this; omega) (.slice D3 6 d3)) _
      have hB5 : Below w1.heap.size w1 (((w3.setCell ⟨w1.heap.size, 0, none⟩ (.slice A3 4 c3)).setCell ⟨w1.heap.size, 1, none⟩ (.slice D3 6 d3)).alloc (.cells #[.slice A3 4 c3, .slice D3 6 d3] 26)) := ((hB3.setCell (p := ⟨w1.heap.size, 0, none⟩) (Nat.le_refl _) _).setCell (p := ⟨w1.heap.size, 1, none⟩) (Nat.le_refl _) _).alloc (by simp; omega) _
      have hz3 : w1.heap.size < w3.heap.size := by omega
      have hobv : ∀ q, v.ownBlock = some q → q < w2.heap.size := fun q e => (World.ownsRow.lt hOv q e).2
      have hbc := Lib.hid (box_cells (A := A3) (D := D3) (c := c3) (d := d3) hX3)
      have hF5 : FlAt (((w3.setCell ⟨w1.heap.size, 0, none⟩ (.slice A3 4 c3)).setCell ⟨w1.heap.size, 1, none⟩ (.slice D3 6 d3)).alloc (.cells #[.slice A3 4 c3, .slice D3 6 d3] 26)) w2.heap.size A3 (upto s (k + 1)).flash := hF3.keep fun b hb hl => by
        rw [Below.heap_alloc _ _ _ (by simpa using hl), Below.heap_setCell _ _ _ _ (show b ≠ w1.heap.size by omega), Below.heap_setCell _ _ _ _ (show b ≠ w1.heap.size by omega)]
      have hD5 : Row (((w3.setCell ⟨w1.heap.size, 0, none⟩ (.slice A3 4 c3)).setCell ⟨w1.heap.size, 1, none⟩ (.slice D3 6 d3)).alloc (.cells #[.slice A3 4 c3, .slice D3 6 d3] 26)) D3 (ints (upto s (k + 1)).disk) := hD3.keep fun b hb hl => by
        have := hl3 b hb
        rw [Below.heap_alloc _ _ _ (by simpa using hl), Below.heap_setCell _ _ _ _ (show b ≠ w1.heap.size by omega), Below.heap_setCell _ _ _ _ (show b ≠ w1.heap.size by omega)]
      have HL3 := Lib.hid hl3
      have HF5 := Lib.hid hF5
      have HD5 := Lib.hid hD5
      clear hF5 hD5
      have hnb : ∀ q, v.ownBlock = some q → w1.heap.size + 1 ≤ q := fun q e => (World.ownsRow.lt hO3 q e).1
      by_cases hx : xs = []
      · subst hx
        obtain ⟨Av, cv, hv, hcv, _⟩ := OwnS.shape hO3
        subst hv
        clear hF3 hF4 hD3 hl3 hX3 hRow3 hO3 hblk hnb
        dsimp only
        have HCV := Lib.hid hcv
        go_wp2_with (at_builtin; refine wpList_append_zero rfl (.tmp 29) (.tmp 30) 37 47 rfl ib Av V ys.length cv cs Try.underlying37 hib rfl rfl HCV.out ?_)
        go_roundw
        case rel => exact ⟨k + 1, ys, _, by omega, by go_num, rfl, by omega, hO4, hX5.out, hB5, by simp; omega⟩
        case measure => simp [intOf]; omega
      · have hlen : 0 < xs.length := List.length_pos_iff.2 hx
        obtain ⟨vb, vo, rfl⟩ := hRow3.addr (by intro e; have := sps_len xs; rw [e] at this; simp at this; omega)
        have hvb := hblk vb (blk_some.2 rfl)
        have hRow5 : Row (((w3.setCell ⟨w1.heap.size, 0, none⟩ (.slice A3 4 c3)).setCell ⟨w1.heap.size, 1, none⟩ (.slice D3 6 d3)).alloc (.cells #[.slice A3 4 c3, .slice D3 6 d3] 26)) (some ⟨vb, vo, none⟩) (sps xs) := Row.alloc (hRow3.keep fun b hb _ => by
          rw [blk_some] at hb
          subst hb
          rw [Below.heap_setCell _ _ _ _ (show vb ≠ w1.heap.size by omega), Below.heap_setCell _ _ _ _ (show vb ≠ w1.heap.size by omega)]) _
        clear hF3 hF4 hD3 hl3 hX3 hRow3 hO3 hblk
        have hA2 : ys.length + xs.length ≤ maxLen := by unfold maxLen; omega
        have hA3 : (ys.length + xs.length) * 64 ≤ 140737488355328 := by omega
        have hA4 : w1.heap.size + 1 ≤ (((w3.setCell ⟨w1.heap.size, 0, none⟩ (.slice A3 4 c3)).setCell ⟨w1.heap.size, 1, none⟩ (.slice D3 6 d3)).alloc (.cells #[.slice A3 4 c3, .slice D3 6 d3] 26)).heap.size := by simp; omega
        have hA5 : (((w3.setCell ⟨w1.heap.size, 0, none⟩ (.slice A3 4 c3)).setCell ⟨w1.heap.size, 1, none⟩ (.slice D3 6 d3)).alloc (.cells #[.slice A3 4 c3, .slice D3 6 d3] 26)).heap.size = w3.heap.size + 1 := by simp
        have HA2 := Lib.hid hA2
        have HA3 := Lib.hid hA3
        have HA4 := Lib.hid hA4
        have HA5 := Lib.hid hA5
        have HLN := Lib.hid hlen
        clear hA2 hA3 hA4 hA5
        dsimp only
        go_wp2_with (at_builtin; refine wpList_append_lies _ rfl (.tmp 29) (.tmp 30) _ rfl (w1.heap.size + 1) 47 ib _ 8 64 Try.underlying37 hib hbz0 hbz1 hbz2 rfl (by decide) v ys.length (sps ys) rfl hO4 ⟨vb, vo, none⟩ xs.length cs (sps xs) rfl (sps_len xs) hRow5.news (sps_one xs) HLN.out HA2.out HA3.out HA4.out (w3.heap.size + 1) HA5.out ?_; intro g2 c2 w6 hown2 hgrow2 hat2 hlt2)
        have hbb : Below (w1.heap.size + 1) (((w3.setCell ⟨w1.heap.size, 0, none⟩ (.slice A3 4 c3)).setCell ⟨w1.heap.size, 1, none⟩ (.slice D3 6 d3)).alloc (.cells #[.slice A3 4 c3, .slice D3 6 d3] 26)) w6 := (Below.refl _ _).grown hgrow2 (by simp; omega) hnb
        have hOS := OwnS.onto (xs := ys) rfl hown2
        have hB6 := hB5.trans (hbb.mono (by omega))
        have hs6 := hbb.size
        have hz6 : w1.heap.size < w6.heap.size := by simp at hs6; omega
        obtain ⟨_, _, _, _, hg5⟩ := hgrow2
        have hk6 : ∀ b, w2.heap.size ≤ b → b < (((w3.setCell ⟨w1.heap.size, 0, none⟩ (.slice A3 4 c3)).setCell ⟨w1.heap.size, 1, none⟩ (.slice D3 6 d3)).alloc (.cells #[.slice A3 4 c3, .slice D3 6 d3] 26)).heap.size → w6.heap[b]? = (((w3.setCell ⟨w1.heap.size, 0, none⟩ (.slice A3 4 c3)).setCell ⟨w1.heap.size, 1, none⟩ (.slice D3 6 d3)).alloc (.cells #[.slice A3 4 c3, .slice D3 6 d3] 26)).heap[b]? := fun b hb hl => hg5 b hl (fun e => by have := hobv b e.symm; omega)
        obtain ⟨z0, z1, z2, z3⟩ := hbc.out
        have hzz : w1.heap.size < ((w3.setCell ⟨w1.heap.size, 0, none⟩ (.slice A3 4 c3)).setCell ⟨w1.heap.size, 1, none⟩ (.slice D3 6 d3)).heap.size := by simp; omega
        have hX6 : BoxSt w6 (w.heap.size + 2) w1.heap.size (upto s (k + 1)) := BoxSt.of ((hbb.cell (p := ⟨w1.heap.size, 0, none⟩) (by show w1.heap.size < _; omega)).trans (cellP z0 _)) ((hbb.cell (p := ⟨w1.heap.size, 1, none⟩) (by show w1.heap.size < _; omega)).trans (cellP z1 _))
          ((hbb.frozen (p := ⟨w1.heap.size, 0, none⟩) (by show w1.heap.size < _; omega)).trans (fzP hzz z2 _)) ((hbb.frozen (p := ⟨w1.heap.size, 1, none⟩) (by show w1.heap.size < _; omega)).trans (fzP hzz z3 _))
          (by obtain ⟨hs', h1, h2⟩ := HF5.out.keep hk6; exact ⟨hs', h1, fun b hb => by have := h2 b hb; omega⟩) (HD5.out.keep fun b hb hl => hk6 b (HL3.out b hb) hl) (fun b hb => by have := HL3.out b hb; omega) (by omega)
        go_roundw
        case rel => exact ⟨k + 1, ys ++ xs, _, by omega, by go_num, rfl, by simp; omega, hOS, hX6, hB6, hz6⟩
        case measure => simp [intOf]; omega
    · have hk6 : k = 6 := by omega
      have hki : (6 : Int) ≤ k := by omega
      have h6 : upto s k = doEvery s := by rw [hk6, upto_six]
      have hkk : ¬ ((k : Int) + 1 ≤ 6) := by omega
      have hz7 : w.heap.size + 1 < wr.heap.size := by omega
      have hXo := HX.out
      obtain ⟨A', c', D', d', hs', p0, p1, _, _, hBk', hne, hD', hned⟩ := hXo
      clear HX hk6 hk hlt hki
      go_wp2
      have e0 := p0; have e1 := p1
      rw [o0] at e0; rw [o1] at e1
      cases e0; cases e1
      have hk2 : ∀ b, w.heap.size + 2 ≤ b → ((wr.setCell ⟨w.heap.size + 1, 0, none⟩ (.slice Ao 4 co)).setCell ⟨w.heap.size + 1, 1, none⟩ (.slice Do 6 dd)).heap[b]? = wr.heap[b]? := fun b hb => by
        rw [Below.heap_setCell _ _ _ _ (show b ≠ w.heap.size + 1 by omega), Below.heap_setCell _ _ _ _ (show b ≠ w.heap.size + 1 by omega)]
      refine bodyPost_ret (v := .tuple #[.agg #[.slice Ao 4 co, .slice Do 6 dd], v]) (by simp [results, Try.results109, go_sem, hz7, rr0, rr1]) rfl ⟨Ao, co, Do, dd, v, rfl, ?_, ?_, fun b hb => by have := (hned b hb).1; omega, ?_⟩
      · rw [← h6]
        obtain ⟨hs3, h1, h2⟩ : FlAt _ (w.heap.size + 2) Ao (upto s k).flash := FlAt.keep (w := wr) ⟨hs', hBk', fun b hb => (hne b hb).1⟩ (fun b hb _ => hk2 b hb)
        exact ⟨hs3, h1, fun b hb => by have := h2 b hb; omega⟩
      · rw [← h6]
        exact hD'.keep fun b hb _ => hk2 b (hned b hb).1
      · refine Below.setCell (Below.setCell hBW ?_ _) ?_ _ <;> (show w.heap.size ≤ w.heap.size + 1; omega)
end Go.Proofs.Ytbekihiiildgmaa
open Go.RowKit Go.IntWalk Go.Maps
namespace Go.Proofs.Ytbekihiiildgmaa
set_option linter.unusedVariables false
set_option linter.unusedSimpArgs false
set_option maxHeartbeats 2000000
set_option maxRecDepth 20000
theorem toR_event {s : St} (h : Okay s) (e : Ev) : toR s (stepsOf s e) e.c e.torn = if e.c < 0 then (st0, false) else (doTo s (stepsOf s e) e.c e.torn, true) := by
  have hb := steps_allB h e
  have hs := storeOk_iff.2 h
  unfold toR
  by_cases hc : e.c < 0
  · rw [if_pos (.inl hc), if_pos hc]
  · rw [if_neg (by rintro (q | q | q); exact hc q; rw [hs] at q; cases q; rw [hb] at q; cases q), if_neg hc]
theorem PlaysPost.more {t : St} {w w' w'' : World} {e : Ending} (h : PlaysPost t w e w') (hb : Below w'.heap.size w' w'') : PlaysPost t w e w'' := by
  obtain ⟨A, c, D, d, v, he, h1, h2, h3, h4⟩ := h
  exact ⟨A, c, D, d, v, he, h1.below hb (Nat.le_refl _) (Nat.le_refl _), h2.below hb (Nat.le_refl _), h3, h4.trans (hb.mono h4.size)⟩
theorem impl_playBegun (s : St) (e : Ev) (A D : Option Addr) (c d : Nat) (w : World) (hs : Okay s) (hF : Fl w A s.flash) (hD : Row w D (ints s.disk)) :
    Calls Try.prog 60 #[.agg #[.slice A 4 c, .slice D 6 d], .agg #[.int .i64 e.kind, .int .i64 e.a, .int .i64 e.b, .int .i64 e.c, .bool e.torn]] w (PlaysPost (doEv s e) w) := by
  have hB0 : Below w.heap.size w (((w.alloc (.cells #[.slice A 4 c, .slice D 6 d] 26)).alloc (.cells #[.int .i64 e.kind, .int .i64 e.a, .int .i64 e.b, .int .i64 e.c, .bool e.torn] 28)).alloc (.cells #[.slice none 0 0, .slice none 0 0] 26)) := by (repeat (first | (with_reducible exact Below.refl _ _) | (with_reducible assumption) | (refine Below.setCell ?_ (by first | omega | exact hB.size | exact hb.size | (have h := hB.size; simp; omega) | (have h := hb.size; simp; omega) | (simp; omega) | simp) _) | (refine Below.alloc ?_ (by first | omega | exact hB.size | exact hb.size | (have h := hB.size; simp; omega) | (have h := hb.size; simp; omega) | (simp; omega) | simp) _) | (refine Below.drew ?_)))
  have hF0 := hF.below hB0 (Nat.le_refl _)
  have hD0 := hD.below hB0 (Nat.le_refl _)
  have hn4 : 4 = s.flash.length := (flashOk_len hs.flash).symm
  have hm6 : 6 = s.disk.length := hs.len.symm
  have HPA := Lib.hid (impl_playAll s A D c d _ hs hF0 hD0)
  have HPS := Lib.hid (impl_PlaySteps s e A D 4 6 c d _ hn4 hm6 hF0 hD0)
  rw [okSteps_ok hs] at HPS
  have HN4 := Lib.hid hn4
  have HM6 := Lib.hid hm6
  have HS := Lib.hid hs
  have HF := Lib.hid hF
  have HD := Lib.hid hD
  have htr := Lib.hid (toR_event hs e)
  have hev : Hid (doEv s e = if e.kind = 4 then doEvery s else if e.c < 0 then s else doTo s (stepsOf s e) e.c e.torn) := rfl
  have hok := doEv_evt hs e
  have HL4 := Lib.hid (flashOk_len hok.ok.flash)
  have HL6 := Lib.hid hok.ok.len
  have hsl : Hid ((stepsOf s e).length ≤ 8) := stepsOf_len hs.fine e
  clear hs hF hD hF0 hD0 hn4 hm6 hok
  obtain ⟨k, ea, eb, ec, t⟩ := e
  dsimp only at *
  by_cases h4 : k = 4
  · subst h4
    rw [if_pos rfl] at hev
    go_enter Try.func60, Try.ntmps60
    go_wp2_with fail
    with_reducible refine HPA.out.mono ?_
    rintro r w1 ⟨A1, c1, D1, d1, v, rfl, hF1, hD1, hl1, hb⟩
    have hs1 : w.heap.size + 3 ≤ w1.heap.size := by have := hb.size; simpa using this
    obtain ⟨hcc, hff⟩ := bcell hb
    have r0 : w1.cell? ⟨w.heap.size + 1 + 1, 0, none⟩ = some (.slice none 0 0) := (hcc _ _ (by simp)).trans ((top3 w _ _ #[.slice none 0 0, .slice none 0 0] 26).at0 (j := 0) rfl).1
    have r1 : w1.cell? ⟨w.heap.size + 1 + 1, 1, none⟩ = some (.slice none 0 0) := (hcc _ _ (by simp)).trans ((top3 w _ _ #[.slice none 0 0, .slice none 0 0] 26).at0 (j := 1) rfl).1
    have q0 : w1.frozen? ⟨w.heap.size + 1 + 1, 0, none⟩ = false := (hff _ _ (by simp)).trans ((top3 w _ _ #[.slice none 0 0, .slice none 0 0] 26).at0 (j := 0) rfl).2
    have q1 : w1.frozen? ⟨w.heap.size + 1 + 1, 1, none⟩ = false := (hff _ _ (by simp)).trans ((top3 w _ _ #[.slice none 0 0, .slice none 0 0] 26).at0 (j := 1) rfl).2
    have hB1 : Below w.heap.size w w1 := hB0.trans (hb.mono (by simp; omega))
    have hsz : (((w.alloc (.cells #[.slice A 4 c, .slice D 6 d] 26)).alloc (.cells #[.int .i64 4, .int .i64 ea, .int .i64 eb, .int .i64 ec, .bool t] 28)).alloc (.cells #[.slice none 0 0, .slice none 0 0] 26)).heap.size = w.heap.size + 3 := by simp
    rw [hsz] at hF1 hl1
    have hz : w.heap.size + 1 + 1 < w1.heap.size := by omega
    have hk2 : ∀ b, w.heap.size + 3 ≤ b → ((w1.setCell ⟨w.heap.size + 1 + 1, 0, none⟩ (.slice A1 4 c1)).setCell ⟨w.heap.size + 1 + 1, 1, none⟩ (.slice D1 6 d1)).heap[b]? = w1.heap[b]? := fun b hb => by
      rw [Below.heap_setCell _ _ _ _ (show b ≠ w.heap.size + 1 + 1 by omega), Below.heap_setCell _ _ _ _ (show b ≠ w.heap.size + 1 + 1 by omega)]
    clear hcc hff hb hsz
    go_wp2
    refine bodyPost_ret (v := .tuple #[.agg #[.slice A1 4 c1, .slice D1 6 d1], v]) (by simp [results, Try.results60, go_sem, hz, r0, r1]) rfl ⟨A1, c1, D1, d1, v, rfl, ?_, ?_, fun b hb => by have := hl1 b hb; omega, ?_⟩
    · rw [hev.out]
      obtain ⟨hs3, k1, k2⟩ := hF1.keep (fun b hb _ => hk2 b hb)
      exact ⟨hs3, k1, fun b hb => by have := k2 b hb; omega⟩
    · rw [hev.out]
      exact hD1.keep fun b hb _ => hk2 b (hl1 b hb)
    · refine Below.setCell (Below.setCell hB1 ?_ _) ?_ _ <;> (show w.heap.size ≤ w.heap.size + 1 + 1; omega)
  · rw [if_neg h4] at hev
    have h4' : (k == 4) = false := by simpa using h4
    go_enter Try.func60, Try.ntmps60
    go_wp2_with fail
    with_reducible refine HPS.out.mono ?_
    rintro r w1 ⟨v1, rfl, hO, hb⟩
    have hs1 : w.heap.size + 3 ≤ w1.heap.size := by have := hb.size; simpa using this
    obtain ⟨hcc, hff⟩ := bcell hb
    have x0 : w1.cell? ⟨w.heap.size, 0, none⟩ = some (.slice A 4 c) := (hcc _ _ (by simp; omega)).trans (cellP (cellP (by simp) _) _)
    have x1 : w1.cell? ⟨w.heap.size, 1, none⟩ = some (.slice D 6 d) := (hcc _ _ (by simp; omega)).trans (cellP (cellP (by simp) _) _)
    have y3 : w1.cell? ⟨w.heap.size + 1, 3, none⟩ = some (.int .i64 ec) := (hcc _ _ (by simp)).trans (cellP (by simp) _)
    have y4 : w1.cell? ⟨w.heap.size + 1, 4, none⟩ = some (.bool t) := (hcc _ _ (by simp)).trans (cellP (by simp) _)
    have r0 : w1.cell? ⟨w.heap.size + 1 + 1, 0, none⟩ = some (.slice none 0 0) := (hcc _ _ (by simp)).trans ((top3 w _ _ #[.slice none 0 0, .slice none 0 0] 26).at0 (j := 0) rfl).1
    have r1 : w1.cell? ⟨w.heap.size + 1 + 1, 1, none⟩ = some (.slice none 0 0) := (hcc _ _ (by simp)).trans ((top3 w _ _ #[.slice none 0 0, .slice none 0 0] 26).at0 (j := 1) rfl).1
    have q0 : w1.frozen? ⟨w.heap.size + 1 + 1, 0, none⟩ = false := (hff _ _ (by simp)).trans ((top3 w _ _ #[.slice none 0 0, .slice none 0 0] 26).at0 (j := 0) rfl).2
    have q1 : w1.frozen? ⟨w.heap.size + 1 + 1, 1, none⟩ = false := (hff _ _ (by simp)).trans ((top3 w _ _ #[.slice none 0 0, .slice none 0 0] 26).at0 (j := 1) rfl).2
    have hB1 : Below w.heap.size w w1 := hB0.trans (hb.mono (by simp; omega))
    generalize stepsOf s ⟨k, ea, eb, ec, t⟩ = xs at *
    obtain ⟨V, cs, rfl, hcs, hRow, hblk⟩ := hO.shape
    have HTO := Lib.hid (impl_StepsTo s xs ec t A D V 4 6 c d cs w1 HN4.out HM6.out (by have := hsl.out; omega) (HF.out.below hB1 (Nat.le_refl _)) (HD.out.below hB1 (Nat.le_refl _)) hRow)
    rw [htr.out] at HTO
    have HCS := Lib.hid hcs
    clear hcc hff hb hO hRow hblk htr HPA HPS hB0
    go_wp2_with fail
    with_reducible refine HTO.out.mono ?_
    rintro r w2 ⟨A2, c2, D2, d2, rfl, hF2, hD2, hl2, hb2⟩
    have hs2 := hb2.size
    replace x0 := (hb2.cell (p := ⟨w.heap.size, 0, none⟩) (by show w.heap.size < _; omega)).trans x0
    replace x1 := (hb2.cell (p := ⟨w.heap.size, 1, none⟩) (by show w.heap.size < _; omega)).trans x1
    replace y3 := (hb2.cell (p := ⟨w.heap.size + 1, 3, none⟩) (by show w.heap.size + 1 < _; omega)).trans y3
    replace y4 := (hb2.cell (p := ⟨w.heap.size + 1, 4, none⟩) (by show w.heap.size + 1 < _; omega)).trans y4
    replace r0 := (hb2.cell (p := ⟨w.heap.size + 1 + 1, 0, none⟩) (by show w.heap.size + 1 + 1 < _; omega)).trans r0
    replace r1 := (hb2.cell (p := ⟨w.heap.size + 1 + 1, 1, none⟩) (by show w.heap.size + 1 + 1 < _; omega)).trans r1
    replace q0 := (hb2.frozen (p := ⟨w.heap.size + 1 + 1, 0, none⟩) (by show w.heap.size + 1 + 1 < _; omega)).trans q0
    replace q1 := (hb2.frozen (p := ⟨w.heap.size + 1 + 1, 1, none⟩) (by show w.heap.size + 1 + 1 < _; omega)).trans q1
    have hB2 := hB1.trans (hb2.mono hB1.size)
    have z0 : w.heap.size < w2.heap.size := by omega
    have z1 : w.heap.size + 1 < w2.heap.size := by omega
    have z2 : w.heap.size + 1 + 1 < w2.heap.size := by omega
    clear HTO hb2 h4
    have hend : ∀ (w3 : World) (A3 D3 : Option Addr) (c3 d3 lo : Nat) (v : Value) (t' : St), w.heap.size + 3 ≤ lo → Below w.heap.size w w3 → FlAt w3 lo A3 t'.flash → Row w3 D3 (ints t'.disk) → (∀ b, blk D3 b → lo ≤ b) → t' = doEv s ⟨k, ea, eb, ec, t⟩ →
        PlaysPost (doEv s ⟨k, ea, eb, ec, t⟩) w (.returned (.tuple #[.agg #[.slice A3 4 c3, .slice D3 6 d3], v])) ((w3.setCell ⟨w.heap.size + 1 + 1, 0, none⟩ (.slice A3 4 c3)).setCell ⟨w.heap.size + 1 + 1, 1, none⟩ (.slice D3 6 d3)) := fun w3 A3 D3 c3 d3 lo v t' h1 h2 h3 h4 h5 h6 => by
      have hk2 : ∀ b, lo ≤ b → ((w3.setCell ⟨w.heap.size + 1 + 1, 0, none⟩ (.slice A3 4 c3)).setCell ⟨w.heap.size + 1 + 1, 1, none⟩ (.slice D3 6 d3)).heap[b]? = w3.heap[b]? := fun b hb => by
        rw [Below.heap_setCell _ _ _ _ (show b ≠ w.heap.size + 1 + 1 by omega), Below.heap_setCell _ _ _ _ (show b ≠ w.heap.size + 1 + 1 by omega)]
      rw [← h6]
      refine ⟨A3, c3, D3, d3, v, rfl, ?_, h4.keep fun b hb _ => hk2 b (h5 b hb), fun b hb => by have := h5 b hb; omega, ?_⟩
      · obtain ⟨hs3, k1, k2⟩ := h3.keep (fun b hb _ => hk2 b hb)
        exact ⟨hs3, k1, fun b hb => by have := k2 b hb; omega⟩
      · refine Below.setCell (Below.setCell h2 ?_ _) ?_ _ <;> (show w.heap.size ≤ w.heap.size + 1 + 1; omega)
    have HEND := Lib.hid hend
    clear hend
    by_cases hc : ec < 0
    · rw [if_pos hc] at hev
      rw [if_pos hc]
      rw [show ((st0, false) : St × Bool).1.flash.length = 0 from rfl, show ((st0, false) : St × Bool).1.disk.length = 0 from rfl]
      dsimp only
      have HSC := Lib.hid (impl_storeCopy s A D c d _ HS.out.fine ((HF.out.below hB2 (Nat.le_refl _)).alloc (.cells #[.slice A2 0 c2, .slice D2 0 d2] 26)) ((HD.out.below hB2 (Nat.le_refl _)).alloc (.cells #[.slice A2 0 c2, .slice D2 0 d2] 26)))
      clear hF2 hD2 hl2 hc
      go_wp2_with fail
      with_reducible refine HSC.out.mono ?_
      rintro r w3 ⟨g3, d3, rfl, hO3, hb3⟩
      have hs3 : w2.heap.size + 1 ≤ w3.heap.size := by have := hb3.size; simpa using this
      obtain ⟨hcc, hff⟩ := bcell hb3
      replace r0 := (hcc (w.heap.size + 1 + 1) 0 (by simp; omega)).trans (cellP r0 _)
      replace r1 := (hcc (w.heap.size + 1 + 1) 1 (by simp; omega)).trans (cellP r1 _)
      replace q0 := (hff (w.heap.size + 1 + 1) 0 (by simp; omega)).trans (fzP z2 q0 _)
      replace q1 := (hff (w.heap.size + 1 + 1) 1 (by simp; omega)).trans (fzP z2 q1 _)
      have hB3 : Below w.heap.size w w3 := (hB2.alloc hB2.size _).trans (hb3.mono (by simp; omega))
      have hz3 : w.heap.size + 1 + 1 < w3.heap.size := by omega
      obtain ⟨hs5, hBk5, hApt5, hD5, hdb5⟩ := hO3
      have hsz : (w2.alloc (.cells #[.slice A2 0 c2, .slice D2 0 d2] 26)).heap.size = w2.heap.size + 1 := by simp
      rw [hsz] at hApt5 hdb5
      clear hb3 hcc hff HSC
      go_wp2
      refine bodyPost_ret (v := .tuple #[.agg #[.slice (some ⟨g3, 0, none⟩) 4 4, .slice (some ⟨d3, 0, none⟩) 6 6], .slice none 0 0]) (by simp [results, Try.results60, go_sem, hz3, r0, r1]) rfl ?_
      exact HEND.out w3 _ _ 4 6 (w2.heap.size + 1) _ s (by omega) hB3 ⟨hs5, hBk5, fun b hb => (hApt5.fblk hb).1⟩ hD5 (fun b hb => (hdb5 b hb).1) hev.out.symm
    · rw [if_neg hc] at hev hF2 hD2
      rw [if_neg hc]
      have h4f : (doTo s xs ec t).flash.length = 4 := by rw [← hev.out]; exact HL4.out
      have h6f : (doTo s xs ec t).disk.length = 6 := by rw [← hev.out]; exact HL6.out
      rw [show ((doTo s xs ec t, true) : St × Bool).1.flash.length = 4 from h4f, show ((doTo s xs ec t, true) : St × Bool).1.disk.length = 6 from h6f]
      dsimp only at hF2 hD2 ⊢
      obtain ⟨cn, rfl⟩ := Int.eq_ofNat_of_zero_le (show (0 : Int) ≤ ec by omega)
      have hcsl := HCS.out
      have hxl := hsl.out
      have HF2 := Lib.hid hF2
      have HD2 := Lib.hid hD2
      have HLL := Lib.hid hl2
      clear hF2 hD2 hl2 h4f h6f hc
      rcases Nat.lt_trichotomy xs.length cn with hl | hl | hl
      · have hl' : (xs.length : Int) < cn := by omega
        cases t
        · skip
          go_wp2
          go_region
          go_wp2
          refine bodyPost_ret (v := .tuple #[.agg #[.slice A2 4 c2, .slice D2 6 d2], .slice V (xs.length) cs]) (by simp [results, Try.results60, go_sem, z2, r0, r1]) rfl ?_
          exact (HEND.out w2 A2 D2 c2 d2 w1.heap.size _ _ (by omega) hB2 HF2.out HD2.out HLL.out hev.out.symm).more (((Below.refl _ _).alloc (Nat.le_refl _) _).drew)
        · skip
          go_wp2
          go_region
          go_wp2
          refine bodyPost_ret (v := .tuple #[.agg #[.slice A2 4 c2, .slice D2 6 d2], .slice V (xs.length) cs]) (by simp [results, Try.results60, go_sem, z2, r0, r1]) rfl ?_
          exact (HEND.out w2 A2 D2 c2 d2 w1.heap.size _ _ (by omega) hB2 HF2.out HD2.out HLL.out hev.out.symm).more (((Below.refl _ _).alloc (Nat.le_refl _) _).drew)
      · subst hl
        cases t
        · skip
          go_wp2
          go_region
          go_wp2
          refine bodyPost_ret (v := .tuple #[.agg #[.slice A2 4 c2, .slice D2 6 d2], .slice V (xs.length) cs]) (by simp [results, Try.results60, go_sem, z2, r0, r1]) rfl ?_
          exact (HEND.out w2 A2 D2 c2 d2 w1.heap.size _ _ (by omega) hB2 HF2.out HD2.out HLL.out hev.out.symm).more (((Below.refl _ _).alloc (Nat.le_refl _) _).drew)
        · skip
          go_wp2
          go_region
          go_wp2
          refine bodyPost_ret (v := .tuple #[.agg #[.slice A2 4 c2, .slice D2 6 d2], .slice V (xs.length) cs]) (by simp [results, Try.results60, go_sem, z2, r0, r1]) rfl ?_
          exact (HEND.out w2 A2 D2 c2 d2 w1.heap.size _ _ (by omega) hB2 HF2.out HD2.out HLL.out hev.out.symm).more (((Below.refl _ _).alloc (Nat.le_refl _) _).drew)
      · have hl' : (cn : Int) < xs.length := by omega
        have hl2 : ¬ (xs.length : Int) < cn := by omega
        have hl3 : ¬ xs.length < cn := by omega
        have hcn : cn ≤ cs := by omega
        have hcn1 : cn + 1 ≤ cs := by omega
        have e1 : IntKind.i64.wrap ((cn : Int) + 1) = (cn : Int) + 1 := IntWalk.i64_in _ (by omega)
        have e2 : ((cn : Int) + 1).toNat = cn + 1 := by omega
        have e3 : (0 : Int) ≤ (cn : Int) + 1 := by omega
        cases t
        · skip
          go_wp2
          go_region
          go_wp2
          refine bodyPost_ret (v := .tuple #[.agg #[.slice A2 4 c2, .slice D2 6 d2], .slice V (cn) cs]) (by simp [results, Try.results60, go_sem, z2, r0, r1]) rfl ?_
          exact (HEND.out w2 A2 D2 c2 d2 w1.heap.size _ _ (by omega) hB2 HF2.out HD2.out HLL.out hev.out.symm).more (((Below.refl _ _).alloc (Nat.le_refl _) _).drew)
        · skip
          go_wp2
          go_region
          go_wp2
          refine bodyPost_ret (v := .tuple #[.agg #[.slice A2 4 c2, .slice D2 6 d2], .slice V (cn + 1) cs]) (by simp [results, Try.results60, go_sem, z2, r0, r1]) rfl ?_
          exact (HEND.out w2 A2 D2 c2 d2 w1.heap.size _ _ (by omega) hB2 HF2.out HD2.out HLL.out hev.out.symm).more (((Below.refl _ _).alloc (Nat.le_refl _) _).drew)
end Go.Proofs.Ytbekihiiildgmaa
open Go.RowKit Go.IntWalk Go.Maps
namespace Go.Proofs.Ytbekihiiildgmaa
set_option linter.unusedVariables false
set_option linter.unusedSimpArgs false
set_option maxHeartbeats 2000000
set_option maxRecDepth 20000
def plDo (s : St) (e : Ev) : St := if storeOk s = true then doEv s e else st0
def DoPost (t : St) (w : World) (e : Ending) (w' : World) : Prop :=
  ∃ A c D d, e = .returned (.agg #[.slice A t.flash.length c, .slice D t.disk.length d]) ∧ FlAt w' w.heap.size A t.flash ∧ Row w' D (ints t.disk) ∧ (∀ b, blk D b → w.heap.size ≤ b) ∧ Below w.heap.size w w'
theorem impl_PlayDo (s : St) (e : Ev) (A D : Option Addr) (n m c d : Nat) (w : World) (hn : n = s.flash.length) (hm : m = s.disk.length) (hF : Fl w A s.flash) (hD : Row w D (ints s.disk)) :
    Calls Try.prog 16 #[.agg #[.slice A n c, .slice D m d], .agg #[.int .i64 e.kind, .int .i64 e.a, .int .i64 e.b, .int .i64 e.c, .bool e.torn]] w (DoPost (plDo s e) w) := by
  have hB0 : Below w.heap.size w (((w.alloc (.cells #[.slice A n c, .slice D m d] 26)).alloc (.cells #[.int .i64 e.kind, .int .i64 e.a, .int .i64 e.b, .int .i64 e.c, .bool e.torn] 28)).alloc (.cells #[.slice none 0 0, .slice none 0 0] 26)) := by (repeat (first | (with_reducible exact Below.refl _ _) | (with_reducible assumption) | (refine Below.setCell ?_ (by first | omega | exact hB.size | exact hb.size | (have h := hB.size; simp; omega) | (have h := hb.size; simp; omega) | (simp; omega) | simp) _) | (refine Below.alloc ?_ (by first | omega | exact hB.size | exact hb.size | (have h := hB.size; simp; omega) | (have h := hb.size; simp; omega) | (simp; omega) | simp) _) | (refine Below.drew ?_)))
  have HSO := Lib.hid (impl_StoreOk s A D n m c d _ hn hm (hF.below hB0 (Nat.le_refl _)) (hD.below hB0 (Nat.le_refl _)))
  have HF := Lib.hid hF
  have HD := Lib.hid hD
  have hfacts : ∀ w1, Below (((w.alloc (.cells #[.slice A n c, .slice D m d] 26)).alloc (.cells #[.int .i64 e.kind, .int .i64 e.a, .int .i64 e.b, .int .i64 e.c, .bool e.torn] 28)).alloc (.cells #[.slice none 0 0, .slice none 0 0] 26)).heap.size (((w.alloc (.cells #[.slice A n c, .slice D m d] 26)).alloc (.cells #[.int .i64 e.kind, .int .i64 e.a, .int .i64 e.b, .int .i64 e.c, .bool e.torn] 28)).alloc (.cells #[.slice none 0 0, .slice none 0 0] 26)) w1 →
      w.heap.size + 3 ≤ w1.heap.size ∧ w1.cell? ⟨w.heap.size, 0, none⟩ = some (.slice A n c) ∧ w1.cell? ⟨w.heap.size, 1, none⟩ = some (.slice D m d) ∧ w1.cell? ⟨w.heap.size + 1, 0, none⟩ = some (.int .i64 e.kind) ∧ w1.cell? ⟨w.heap.size + 1, 1, none⟩ = some (.int .i64 e.a) ∧ w1.cell? ⟨w.heap.size + 1, 2, none⟩ = some (.int .i64 e.b) ∧ w1.cell? ⟨w.heap.size + 1, 3, none⟩ = some (.int .i64 e.c) ∧ w1.cell? ⟨w.heap.size + 1, 4, none⟩ = some (.bool e.torn) ∧
      w1.cell? ⟨w.heap.size + 1 + 1, 0, none⟩ = some (.slice none 0 0) ∧ w1.cell? ⟨w.heap.size + 1 + 1, 1, none⟩ = some (.slice none 0 0) ∧ w1.frozen? ⟨w.heap.size + 1 + 1, 0, none⟩ = false ∧ w1.frozen? ⟨w.heap.size + 1 + 1, 1, none⟩ = false := fun w1 hb => by
    have hs1 : w.heap.size + 3 ≤ w1.heap.size := by have := hb.size; simpa using this
    obtain ⟨hcc, hff⟩ := bcell hb
    exact ⟨hs1, (hcc _ _ (by simp; omega)).trans (cellP (cellP (by simp) _) _), (hcc _ _ (by simp; omega)).trans (cellP (cellP (by simp) _) _), (hcc _ _ (by simp)).trans (cellP (by simp) _), (hcc _ _ (by simp)).trans (cellP (by simp) _), (hcc _ _ (by simp)).trans (cellP (by simp) _), (hcc _ _ (by simp)).trans (cellP (by simp) _), (hcc _ _ (by simp)).trans (cellP (by simp) _),
      (hcc _ _ (by simp)).trans ((top3 w _ _ #[.slice none 0 0, .slice none 0 0] 26).at0 (j := 0) rfl).1, (hcc _ _ (by simp)).trans ((top3 w _ _ #[.slice none 0 0, .slice none 0 0] 26).at0 (j := 1) rfl).1, (hff _ _ (by simp)).trans ((top3 w _ _ #[.slice none 0 0, .slice none 0 0] 26).at0 (j := 0) rfl).2, (hff _ _ (by simp)).trans ((top3 w _ _ #[.slice none 0 0, .slice none 0 0] 26).at0 (j := 1) rfl).2⟩
  have HFA := Lib.hid hfacts
  clear hfacts
  by_cases hok : storeOk s = true
  · have hs := storeOk_iff.1 hok
    have hfin : Hid (plDo s e = doEv s e) := by unfold Hid plDo; rw [if_pos hok]
    obtain rfl : n = 4 := by have := flashOk_len hs.flash; omega
    obtain rfl : m = 6 := by have := hs.len; omega
    have hev := (doEv_evt hs e).ok
    have HL4 := Lib.hid (flashOk_len hev.flash)
    have HL6 := Lib.hid hev.len
    have HS := Lib.hid hs
    rw [hok] at HSO
    clear hok hn hm hF hD hs hev
    go_enter Try.func16, Try.ntmps16
    go_wp2_with fail
    with_reducible refine HSO.out.mono ?_
    rintro r w1 ⟨rfl, hb⟩
    obtain ⟨hs1, x0, x1, y0, y1, y2, y3, y4, r0, r1, q0, q1⟩ := HFA.out w1 hb
    have hB1 : Below w.heap.size w w1 := hB0.trans (hb.mono (by simp; omega))
    have HPB := Lib.hid (impl_playBegun s e A D c d w1 HS.out (HF.out.below hB1 (Nat.le_refl _)) (HD.out.below hB1 (Nat.le_refl _)))
    clear hb HSO HFA hB0
    go_wp2_with fail
    with_reducible refine HPB.out.mono ?_
    rintro r w2 ⟨A2, c2, D2, d2, v, rfl, hF2, hD2, hl2, hb2⟩
    have hs2 := hb2.size
    replace r0 := (hb2.cell (p := ⟨w.heap.size + 1 + 1, 0, none⟩) (by show w.heap.size + 1 + 1 < _; omega)).trans r0
    replace r1 := (hb2.cell (p := ⟨w.heap.size + 1 + 1, 1, none⟩) (by show w.heap.size + 1 + 1 < _; omega)).trans r1
    replace q0 := (hb2.frozen (p := ⟨w.heap.size + 1 + 1, 0, none⟩) (by show w.heap.size + 1 + 1 < _; omega)).trans q0
    replace q1 := (hb2.frozen (p := ⟨w.heap.size + 1 + 1, 1, none⟩) (by show w.heap.size + 1 + 1 < _; omega)).trans q1
    have hB2 := hB1.trans (hb2.mono hB1.size)
    have z2 : w.heap.size + 1 + 1 < w2.heap.size := by omega
    have HF2 := Lib.hid hF2
    have HD2 := Lib.hid hD2
    have HL2 := Lib.hid hl2
    clear hF2 hD2 hl2 hb2 HPB x0 x1 y0 y1 y2 y3 y4
    go_wp2
    have hk2 : ∀ b, w1.heap.size ≤ b → b < w2.heap.size → (((w2.setCell ⟨w.heap.size + 1 + 1, 0, none⟩ (.slice A2 4 c2)).setCell ⟨w.heap.size + 1 + 1, 1, none⟩ (.slice D2 6 d2)).alloc (.cells #[.slice A2 4 c2, .slice D2 6 d2] 26)).heap[b]? = w2.heap[b]? := fun b hb hl => by
      rw [Below.heap_alloc _ _ _ (by simpa using hl), Below.heap_setCell _ _ _ _ (show b ≠ w.heap.size + 1 + 1 by omega), Below.heap_setCell _ _ _ _ (show b ≠ w.heap.size + 1 + 1 by omega)]
    refine bodyPost_ret (v := .agg #[.slice A2 4 c2, .slice D2 6 d2]) (by simp [results, Try.results16, go_sem, z2, r0, r1]) rfl ?_
    rw [hfin.out]
    refine ⟨A2, c2, D2, d2, by rw [HL4.out, HL6.out], ?_, HD2.out.keep fun b hb hl => hk2 b (HL2.out b hb) hl, fun b hb => by have := HL2.out b hb; omega, ?_⟩
    · obtain ⟨hs3, k1, k2⟩ := HF2.out.keep hk2
      exact ⟨hs3, k1, fun b hb => by have := k2 b hb; omega⟩
    · exact ((hB2.setCell (p := ⟨w.heap.size + 1 + 1, 0, none⟩) (by show w.heap.size ≤ w.heap.size + 1 + 1; omega) _).setCell (p := ⟨w.heap.size + 1 + 1, 1, none⟩) (by show w.heap.size ≤ w.heap.size + 1 + 1; omega) _).alloc (by simp; omega) _
  · have hok' : storeOk s = false := by simpa using hok
    have hfin : Hid (plDo s e = st0) := by unfold Hid plDo; rw [if_neg hok]
    rw [hok'] at HSO
    clear hok hok' hn hm hF hD
    go_enter Try.func16, Try.ntmps16
    go_wp2_with (go_at_call 21; (with_reducible refine HSO.out.mono ?_); rintro r w1 ⟨rfl, hb⟩; obtain ⟨hs1, x0, x1, y0, y1, y2, y3, y4, r0, r1, q0, q1⟩ := HFA.out w1 hb)
    have hB1 : Below w.heap.size w w1 := hB0.trans (hb.mono (by simp; omega))
    have z2 : w.heap.size + 1 + 1 < w1.heap.size := by omega
    refine bodyPost_ret (v := .agg #[.slice none 0 0, .slice none 0 0]) (by simp [results, Try.results16, go_sem, z2, r0, r1]) rfl ?_
    rw [hfin.out]
    refine ⟨none, 0, none, 0, rfl, FlAt.nil _ _, Row.nil _ _, (fun b hb => by cases hb), ?_⟩
    refine Below.setCell (Below.setCell hB1 ?_ _) ?_ _ <;> (show w.heap.size ≤ w.heap.size + 1 + 1; omega)
end Go.Proofs.Ytbekihiiildgmaa
open Go.RowKit Go.IntWalk Go.Maps
namespace Go.Proofs.Ytbekihiiildgmaa
set_option linter.unusedVariables false
set_option linter.unusedSimpArgs false
set_option maxHeartbeats 2000000
set_option maxRecDepth 20000
end Go.Proofs.Ytbekihiiildgmaa
open Go.RowKit Go.IntWalk Go.Maps
namespace Go.Proofs.Ytbekihiiildgmaa
set_option linter.unusedVariables false
set_option linter.unusedSimpArgs false
set_option maxHeartbeats 2000000
set_option maxRecDepth 20000
theorem OSt.flAt {w : World} {lo hi : Nat} {A D : Option Addr} {f : List Bk} {xs : List Int} (h : OSt w lo hi A f D xs) : FlAt w lo A f := by
  obtain ⟨hs, hBk, hApt, _, _⟩ := h
  exact ⟨hs, hBk, fun b hb => (hApt.fblk hb).1⟩
theorem OSt.dlo {w : World} {lo hi : Nat} {A D : Option Addr} {f : List Bk} {xs : List Int} (h : OSt w lo hi A f D xs) : ∀ b, blk D b → lo ≤ b ∧ b < hi := by
  obtain ⟨hs, hBk, hApt, _, h⟩ := h
  exact fun b hb => ⟨(h b hb).1, (h b hb).2.1⟩
end Go.Proofs.Ytbekihiiildgmaa
namespace Go.Proofs.Ytbekihiiildgmaa
set_option linter.unusedVariables false
set_option linter.unusedSimpArgs false
open Go.RowKit Go.Maps
set_option maxHeartbeats 400000
theorem OwnE.out {w : World} {base : Nat} {v : Value} {xs : List Ev} (h : OwnE w base v xs) : ∃ A c, v = .slice A xs.length c ∧ Row w A (evs xs) ∧ (∀ b, blk A b → base ≤ b ∧ b < w.heap.size) ∧ xs.length ≤ c := by
  have h' := h
  obtain ⟨hl, ⟨hv, hz⟩ | ⟨g, cap, cur, hv, hb, hh, hnc, hm, hs, ht⟩⟩ := h
  · have hxs : xs = [] := List.eq_nil_of_length_eq_zero hz
    subst hxs
    exact ⟨none, 0, hv, Row.nil _ _, (fun b hb => by cases hb), Nat.le_refl _⟩
  · refine ⟨some ⟨g, 0, none⟩, cap, hv, ?_, fun b hb' => ?_, hnc⟩
    · unfold OwnE at h'; rw [hv] at h'; exact Row.of_own h'
    · rw [blk_some] at hb'
      subst hb'
      exact ⟨hb, (Array.getElem?_eq_some_iff.1 hh).1⟩
end Go.Proofs.Ytbekihiiildgmaa
namespace Go.Proofs.Ytbekihiiildgmaa
set_option linter.unusedVariables false
set_option linter.unusedSimpArgs false
open Go.RowKit Go.Maps
set_option maxHeartbeats 400000
def stSmall (s : St) : Prop := flSmall s.flash ∧ s.disk.length ≤ 6
theorem stSmall_of {s : St} (h : stFine s) : stSmall s := ⟨flSmall_of h.1, by rw [h.2.1]; omega⟩
/-- what a draw of a store answers -/
def StorePost (B R m : Nat) (w : World) (e : Ending) (w' : World) : Prop :=
  ∃ (A D : Option Addr) (c d : Nat) (s : St), e = .returned (.agg #[.slice A s.flash.length c, .slice D s.disk.length d]) ∧ stSmall s ∧ OSt w' w.heap.size w'.heap.size A s.flash D s.disk ∧ Rd w' B R (m + 1200) ∧ Agr (· = R) w w'
theorem OSt.putDisk {w w' : World} {lo hi db dO k : Nat} {A : Option Addr} {f : List Bk} {xs : List Int} {v : Int} (h : OSt w lo hi A f (some ⟨db, dO, none⟩) xs) (hk : k < xs.length) (hW : Wrote w w' db (dO + k) [.int .i64 v]) : OSt w' lo hi A f (some ⟨db, dO, none⟩) (xs.set k v) := by
  obtain ⟨hs, h1, h2, h3, h4⟩ := h
  have hd := h4 db (blk_some.2 rfl)
  refine ⟨hs, h1.keep fun b hb hl => hW.block b (fun e => ?_), h2, h3.putInt hk hW, h4⟩
  subst e
  rcases hb with hb | ⟨x, hx, hb⟩
  · exact hd.2.2.1 hb
  · obtain ⟨i, hi'⟩ := List.getElem?_of_mem hx
    exact hd.2.2.2 i x hi' hb
theorem OSt.agr {w w' : World} {lo hi : Nat} {A D : Option Addr} {f : List Bk} {xs : List Int} {S : Nat → Prop} (h : OSt w lo hi A f D xs) (ha : Agr S w w') (hS : ∀ b, lo ≤ b → b < hi → ¬ S b) : OSt w' lo hi A f D xs := h.keep fun b h1 h2 hl => ha.block b hl (hS b h1 h2)
def worn200 (b : Bk) : Bk := { b with worn := 200 }
def wornTo (f : List Bk) (k : Nat) : List Bk := (f.take k).map worn200 ++ f.drop k
theorem wornTo_len (f : List Bk) (k : Nat) : (wornTo f k).length = f.length := by unfold wornTo; rw [List.length_append, List.length_map, List.length_take, List.length_drop]; omega
theorem wornTo_get {f : List Bk} {k : Nat} : (wornTo f k)[k]? = f[k]? := by
  unfold wornTo
  by_cases h : k < f.length
  · rw [List.getElem?_append_right (by simp; omega), List.length_map, List.length_take, List.getElem?_drop]
    congr 1; omega
  · rw [List.getElem?_eq_none (by simp; omega), List.getElem?_eq_none (by omega)]
theorem wornTo_step {f : List Bk} {k : Nat} {b : Bk} (h : f[k]? = some b) : (wornTo f k).set k { b with worn := 200 } = wornTo f (k + 1) := by
  obtain ⟨hl, rfl⟩ := List.getElem?_eq_some_iff.1 h
  unfold wornTo
  rw [List.set_append_right _ _ (by simp; omega), List.length_map, List.length_take, show k - min k f.length = 0 by omega, List.drop_eq_getElem_cons hl, List.set_cons_zero, List.take_succ_eq_append_getElem hl, List.map_append, List.append_assoc]
  rfl
theorem wornTo_small {f : List Bk} (h : flSmall f) (k : Nat) : flSmall (wornTo f k) := by
  refine ⟨by rw [wornTo_len]; exact h.1, by rw [wornTo_len]; exact h.2.1, fun b hb => ?_⟩
  unfold wornTo at hb
  rcases List.mem_append.1 hb with hb | hb
  · obtain ⟨c, hc, rfl⟩ := List.mem_map.1 hb
    have := h.2.2 c (List.mem_of_mem_take hc)
    exact ⟨this.1, ⟨by show (-1 : Int) ≤ 200; omega, by show (200 : Int) ≤ 1000; omega⟩, this.2.2⟩
  · exact h.2.2 b (List.mem_of_mem_drop hb)
/-- the result laid -/
theorem laid_cells {w : World} {N : Nat} {u0 u1 : Value} (q0 : w.cell? ⟨N, 0, none⟩ = some u0) (q1 : w.cell? ⟨N, 1, none⟩ = some u1) (v0 v1 : Value) : Wrote w ((w.setCell ⟨N, 0, none⟩ v0).setCell ⟨N, 1, none⟩ v1) N 0 [v0, v1] :=
  wrote_setRow N [v0, v1] 0 w (fun j hj => by
    match j, hj with
    | 0, _ => exact ⟨_, q0⟩
    | 1, _ => exact ⟨_, q1⟩)
set_option maxHeartbeats 8000000 in
set_option maxRecDepth 100000 in
theorem spec_l71Store (B R m : Nat) (w : World) (hm : m ≤ 790000) (hR : Rd w B R m) :
    Calls Try.prog 107 #[.pointer (some ⟨R, 0, none⟩)] w (StorePost B R m w) := by
  have hRl := hR.lt
  have hR0 := hR.alloc (.cells #[.slice none 0 0, .slice none 0 0] 26)
  have hq := Row.new w #[.slice none 0 0, .slice none 0 0] 26
  obtain ⟨q0, f0⟩ := hq.at0 (j := 0) rfl
  obtain ⟨q1, f1⟩ := hq.at0 (j := 1) rfl
  have hA0 : Agr (· = R) w (w.alloc (.cells #[.slice none 0 0, .slice none 0 0] 26)) := (Agr.refl _ _).alloc _
  have hs0 : (w.alloc (.cells #[.slice none 0 0, .slice none 0 0] 26)).heap.size = w.heap.size + 1 := by simp
  clear hq
  go_enter Try.func107, Try.ntmps107
  go_wp2_with fail
  refine (spec_l71Play B R m _ (by omega) hR0).mono ?_
  rintro e w1 ⟨v, A, D, c, lo, hi, s, xs, rfl, hlo, hhi, hc, hO, hst, _, _, _, hR1, hA1⟩
  rw [hs0] at hlo
  have hs1 := hA1.size
  rw [hs0] at hs1
  replace q0 := (hA1.cell (b := w.heap.size) (by omega) (by omega) 0).trans q0
  replace q1 := (hA1.cell (b := w.heap.size) (by omega) (by omega) 1).trans q1
  replace f0 := (hA1.fz (b := w.heap.size) (by omega) (by omega) 0).trans f0
  replace f1 := (hA1.fz (b := w.heap.size) (by omega) (by omega) 1).trans f1
  replace hA1 := hA0.trans hA1 (fun _ _ h => h)
  obtain ⟨hlF, hlD⟩ : s.flash.length = 4 ∧ s.disk.length = 6 := ⟨hst.1.1, hst.2.1⟩
  have HLF := Lib.hid hlF
  have HLD := Lib.hid hlD
  have hsm := Lib.hid (stSmall_of hst)
  obtain ⟨db, dO, rfl⟩ := hO.disk.addr (ints_ne' (by intro e; rw [e] at hlD; simp at hlD))
  have hdb : lo ≤ db ∧ db < hi := by obtain ⟨_, _, _, _, h4⟩ := hO; have := h4 db (blk_some.2 rfl); exact ⟨this.1, this.2.1⟩
  clear hA0 hs0 hlF hlD hst hR0 hR
  obtain ⟨W, hW⟩ : ∃ W, w1.alloc (.cells #[.slice A 4 c, .slice (some ⟨db, dO, none⟩) 6 6] 26) = W := ⟨_, rfl⟩
  have hBW : Below w1.heap.size w1 W := by rw [← hW]; (repeat (first | (with_reducible exact Below.refl _ _) | (with_reducible assumption) | (refine Below.setCell ?_ (by first | omega | exact hB.size | exact hb.size | (have h := hB.size; simp; omega) | (have h := hb.size; simp; omega) | (simp; omega) | simp) _) | (refine Below.alloc ?_ (by first | omega | exact hB.size | exact hb.size | (have h := hB.size; simp; omega) | (have h := hb.size; simp; omega) | (simp; omega) | simp) _) | (refine Below.drew ?_)))
  have hWs : W.heap.size = w1.heap.size + 1 := by rw [← hW]; simp
  have hM := Row.new w1 #[.slice A 4 c, .slice (some ⟨db, dO, none⟩) 6 6] 26
  rw [hW] at hM
  obtain ⟨b0, g0⟩ := hM.at0 (j := 0) rfl
  obtain ⟨b1, g1⟩ := hM.at0 (j := 1) rfl
  replace q0 := (hBW.cell (p := ⟨w.heap.size, 0, none⟩) (by show w.heap.size < _; omega)).trans q0
  replace q1 := (hBW.cell (p := ⟨w.heap.size, 1, none⟩) (by show w.heap.size < _; omega)).trans q1
  replace f0 := (hBW.frozen (p := ⟨w.heap.size, 0, none⟩) (by show w.heap.size < _; omega)).trans f0
  replace f1 := (hBW.frozen (p := ⟨w.heap.size, 1, none⟩) (by show w.heap.size < _; omega)).trans f1
  replace hR1 := hR1.below hBW (Nat.le_refl _)
  replace hO := hO.below hBW (Nat.le_refl _)
  replace hA1 : Agr (· = R) w W := hA1.trans (Agr.of_below hBW : Agr (fun _ => False) w1 W) (fun _ _ h => h.elim)
  obtain ⟨n1, hn1⟩ : ∃ n1, w1.heap.size = n1 := ⟨_, rfl⟩
  rw [hn1] at hs1 hhi b0 b1 g0 g1 hWs
  have HW := Lib.hid hW
  clear hW hM hBW
  go_wp2_with fail
  (try rw [HW.out])
  (try rw [hn1])
  refine (spec_pickI 30 30 B R (m + 500) _ rfl (by omega) (by omega) (by omega) hR1).mono ?_
  rintro e w2 ⟨k, rfl, hk, hR2, hA2⟩
  (try simp only [hn1])
  have hs2 := hA2.size
  replace q0 := (hA2.cell (b := w.heap.size) (by omega) (by omega) 0).trans q0
  replace q1 := (hA2.cell (b := w.heap.size) (by omega) (by omega) 1).trans q1
  replace f0 := (hA2.fz (b := w.heap.size) (by omega) (by omega) 0).trans f0
  replace f1 := (hA2.fz (b := w.heap.size) (by omega) (by omega) 1).trans f1
  replace b0 := (hA2.cell (b := n1) (by omega) (by omega) 0).trans b0
  replace b1 := (hA2.cell (b := n1) (by omega) (by omega) 1).trans b1
  replace g0 := (hA2.fz (b := n1) (by omega) (by omega) 0).trans g0
  replace g1 := (hA2.fz (b := n1) (by omega) (by omega) 1).trans g1
  replace hO := hO.agr hA2 (fun b h1 h2 h3 => by omega)
  replace hA2 := hA1.trans hA2 (fun _ _ h => h)
  clear hA1 hR1 HW
  have hs2' : n1 < w2.heap.size := by omega
  clear hs2 hWs hn1
  by_cases h0 : k = 0
  · have t0 : ((k : Int) == 0) = true := by subst h0; rfl
    clear h0
    have hR2d := hR2.drew
    have hA2d := hA2.drew
    have hOd := hO.drew
    have P6 := Lib.hid (fun (p : Nat) (X : World) (h : p ≤ 1000000) (hr : Rd X B R p) => spec_pickI 6 6 B R p X rfl (by omega) (by omega) h hr)
    have P4 := Lib.hid (fun (p : Nat) (X : World) (h : p ≤ 1000000) (hr : Rd X B R p) => spec_pickI 4 4 B R p X rfl (by omega) (by omega) h hr)
    have HD := Lib.hid (fun (X : World) (h : Agr (· = R) w2.drew X) => (show X.cell? ⟨n1, 1, none⟩ = some (.slice (some ⟨db, dO, none⟩) 6 6) from (h.cell (b := n1) hs2' (by omega) 1).trans b1))
    have hZ := Lib.hid (fun (X : World) => Row.new X #[.int .i64 (-1), .int .i64 10, .int .i64 0, .int .i64 5] 3)
    have hag0 : Agr (· = R) w2.drew w2.drew := Agr.refl _ _
    have hd2 : w2.drew.heap.size = w2.heap.size := rfl
    go_wp2
    refine wp_region_held_drew (S := fun X => X.cell? ⟨n1, 1, none⟩ = some (.slice (some ⟨db, dO, none⟩) 6 6)) (by kernel_rfl) (HD.out _ hag0) (fun hHeld0 => ?_)
    refine wpAnyH_take (i := 0) (v := ?vz1) rfl (by kernel_rfl) (by kernel_rfl) (by kernel_rfl) (fun _ _ _ h => h) (Or.inl ⟨by kernel_rfl, ?yz1⟩) hHeld0 ?rz1
    case yz1 => (intro w' hS; (try dsimp only at hS); obtain s0 := hS; (try go_simp); (try with_reducible rfl))
    try simp only [Act.put, jA, jB, jC, jD, jE, jF]
    refine wpAnyH_take (i := 1) (v := ?vz2) rfl (by kernel_rfl) (by kernel_rfl) (by kernel_rfl) (fun _ _ _ h => h) (Or.inl ⟨by kernel_rfl, ?yz2⟩) hHeld0 ?rz2
    case yz2 => (intro w' hS; (try dsimp only at hS); obtain s0 := hS; (try go_simp); (try with_reducible rfl))
    try simp only [Act.put, jA, jB, jC, jD, jE, jF]
    refine wpAnyH_take (i := 2) (v := ?vz3) rfl (by kernel_rfl) (by kernel_rfl) (by kernel_rfl) (fun _ _ _ h => h) (Or.inl ⟨by kernel_rfl, ?yz3⟩) hHeld0 ?rz3
    case yz3 => (intro w' hS; (try dsimp only at hS); obtain s0 := hS; (try go_simp); (try with_reducible rfl))
    try simp only [Act.put, jA, jB, jC, jD, jE, jF]
    refine wpAnyH_take (i := 5) (v := ?vz4) rfl (by kernel_rfl) (by kernel_rfl) (by kernel_rfl) (fun _ _ _ h => h) (Or.inl ⟨by kernel_rfl, ?yz4⟩) hHeld0 ?rz4
    case yz4 => (intro w' hS; (try dsimp only at hS); obtain s0 := hS; (try go_simp); (try with_reducible rfl))
    try simp only [Act.put, jA, jB, jC, jD, jE, jF]
    refine wpAnyH_ready (rs := [3, 4]) (by kernel_rfl) (by simp) ?_
    refine AllReadyH.cons rfl (fun K hK => ?_) (AllReadyH.cons rfl (fun K hK => ?_) AllReadyH.nil)
    · go_simp
      refine (P6.out ((m + 501)) _ (by omega) hR2d).mono ?_
      rintro e wk3 ⟨k3, rfl, hk3, hRk3, hAk3⟩
      have hk3' : (k3 : Int) < 6 := by omega
      have hagk3 := hag0.trans hAk3 (fun _ _ h => h)
      go_wp2_with fail
      refine hK.out _ _ (HD.out _ hagk3) (fun hHk3 => ?_)
      clear hK K
      try simp only [Act.put, jA, jB, jC, jD, jE, jF]
      refine wpAnyH_ready (rs := [4, 6]) (by kernel_rfl) (by simp) ?_
      refine AllReadyH.cons rfl (fun K hK => ?_) (AllReadyH.cons rfl (fun K hK => ?_) AllReadyH.nil)
      · go_simp
        have hagb := hagk3.alloc (.cells #[.int .i64 (-1), .int .i64 10, .int .i64 0, .int .i64 5] 3)
        have hRb := hRk3.alloc (.cells #[.int .i64 (-1), .int .i64 10, .int .i64 0, .int .i64 5] 3)
        have hbxR : R < (wk3).heap.size := by have := hagk3.size; omega
        have hBt := fun (j : Nat) (u : Value) (hu : ([Value.int .i64 (-1), Value.int .i64 10, Value.int .i64 0, Value.int .i64 5])[j]? = some u) => ((hZ.out (wk3)).at0 hu).1
        refine hK.out _ _ (HD.out _ hagb) (fun hHb => ?_)
        clear hK K
        try simp only [Act.put, jA, jB, jC, jD, jE, jF]
        refine wpAnyH_ready (rs := [6]) (by kernel_rfl) (by simp) ?_
        refine AllReadyH.cons rfl (fun K hK => ?_) AllReadyH.nil
        go_simp
        refine (P4.out ((m + 501) + 1) _ (by omega) hRb).mono ?_
        rintro e wk4 ⟨k4, rfl, hk4, hRk4, hAk4⟩
        have hk4' : (k4 : Int) < 4 := by omega
        have hagk4 := hagb.trans hAk4 (fun _ _ h => h)
        replace hBt := fun (j : Nat) (u : Value) (hu : ([Value.int .i64 (-1), Value.int .i64 10, Value.int .i64 0, Value.int .i64 5])[j]? = some u) => (hAk4.cell (b := (wk3).heap.size) (by have := lt_of_cell (hBt 0 _ rfl); exact this) (by omega) j).trans (hBt j u hu)
        go_wp2_with fail
        refine hK.out _ _ (HD.out _ hagk4) (fun hHk4 => ?_)
        clear hK K
        try simp only [Act.put, jA, jB, jC, jD, jE, jF]
        obtain ⟨v4, hv, hv1, hv2⟩ : ∃ v : Int, ([Value.int .i64 (-1), Value.int .i64 10, Value.int .i64 0, Value.int .i64 5])[k4]? = some (.int .i64 v) ∧ -1 ≤ v ∧ v ≤ 1000 := by
          rcases (by omega : k4 = 0 ∨ k4 = 1 ∨ k4 = 2 ∨ k4 = 3) with rfl | rfl | rfl | rfl <;> exact ⟨_, rfl, by omega, by omega⟩
        have z0 : (wk4).cell? ⟨(wk3).heap.size, k4, none⟩ = some (.int .i64 v4) := hBt _ _ hv
        have hve : ∀ h : k4 < ([Value.int .i64 (-1), Value.int .i64 10, Value.int .i64 0, Value.int .i64 5]).length, ([Value.int .i64 (-1), Value.int .i64 10, Value.int .i64 0, Value.int .i64 5])[k4]'h = .int .i64 v4 := fun h => (List.getElem?_eq_some_iff.1 hv).2
        refine wpAnyH_take (i := 7) (v := ?vz5) rfl (by kernel_rfl) (by kernel_rfl) (by kernel_rfl) (fun _ _ _ h => h) (Or.inl ⟨by kernel_rfl, ?yz5⟩) hHk4 ?rz5
        case yz5 => (intro w' hS; (try dsimp only at hS); obtain s0 := hS; (try go_simp); (try with_reducible rfl))
        try simp only [Act.put, jA, jB, jC, jD, jE, jF]
        refine wpAnyH_ready (rs := [8]) (by kernel_rfl) (by simp) ?_
        refine AllReadyH.cons rfl (fun K hK => ?_) AllReadyH.nil
        go_simp
        refine hK.out _ _ (HD.out _ hagk4) (fun hHz => ?_)
        clear hK K
        try simp only [Act.put, jA, jB, jC, jD, jE, jF]
        refine wpAnyH_take (i := 9) (v := ?vz6) rfl (by kernel_rfl) (by kernel_rfl) (by kernel_rfl) (fun _ _ _ h => h) (Or.inl ⟨by kernel_rfl, ?yz6⟩) hHz ?rz6
        case yz6 => (intro w' hS; (try dsimp only at hS); obtain s0 := hS; (try go_simp); (try with_reducible rfl))
        try simp only [Act.put, jA, jB, jC, jD, jE, jF]
        have hOe := hOd.agr hagk4 (fun b h1 h2 h3 => by omega)
        obtain ⟨q5, hq5⟩ := get_some (l := s.disk) (k := k3) (by rw [HLD.out]; exact hk3)
        obtain ⟨d0, d1⟩ := hOe.disk.int_ hq5
        have hWd := wrote_one d0 (.int .i64 v4)
        have hOg := hOe.putDisk (k := k3) (v := v4) (by rw [HLD.out]; exact hk3) hWd
        have hAg2 := (hA2d.trans hagk4 (fun _ _ h => h)).trans (S' := (· = db)) hWd.agr (fun b hb e => by have := hdb; omega)
        have hRg := (hRk4.agr hWd.agr (by omega) (fun b hb e => by have := hRk4.le; omega))
        have hsX := hagk4.size
        have hsY := hWd.size
        refine wpAnyH_ready (rs := [10]) (by kernel_rfl) (by simp) ?_
        refine AllReadyH.cons rfl (fun K hK => ?_) AllReadyH.nil
        go_simp
        refine hK.out _ _ (by first | exact (hWd.agr.cell (b := n1) (by have := hagk4.size; omega) (by omega) 1).trans (HD.out _ hagk4)) (fun hHy => ?_)
        clear hK K
        try simp only [Act.put, jA, jB, jC, jD, jE, jF]
        replace q0 := (hWd.agr.cell (b := w.heap.size) (by omega) (by omega) 0).trans ((hagk4.cell (b := w.heap.size) (by show _ < w2.heap.size; omega) (by omega) 0).trans q0)
        replace q1 := (hWd.agr.cell (b := w.heap.size) (by omega) (by omega) 1).trans ((hagk4.cell (b := w.heap.size) (by show _ < w2.heap.size; omega) (by omega) 1).trans q1)
        replace f0 := (hWd.agr.fz (b := w.heap.size) (by omega) (by omega) 0).trans ((hagk4.fz (b := w.heap.size) (by show _ < w2.heap.size; omega) (by omega) 0).trans f0)
        replace f1 := (hWd.agr.fz (b := w.heap.size) (by omega) (by omega) 1).trans ((hagk4.fz (b := w.heap.size) (by show _ < w2.heap.size; omega) (by omega) 1).trans f1)
        replace b0 := (hWd.agr.cell (b := n1) (by omega) (by omega) 0).trans ((hagk4.cell (b := n1) (by show _ < w2.heap.size; omega) (by omega) 0).trans b0)
        replace b1 := (hWd.agr.cell (b := n1) (by omega) (by omega) 1).trans ((hagk4.cell (b := n1) (by show _ < w2.heap.size; omega) (by omega) 1).trans b1)
        have hsm2 : stSmall ⟨s.flash, s.disk.set k3 v4⟩ := ⟨hsm.out.1, by rw [List.length_set, HLD.out]; omega⟩
        replace hsm2 := Lib.hid hsm2
        clear hWd hOe hOd z0 d0 d1 hq5 hBt hv
        refine wpAnyH_done (by kernel_rfl) ?_ _
        go_wp2
        have hL := laid_cells q0 q1 (Value.slice A 4 c) (Value.slice (some ⟨db, dO, none⟩) 6 6)
        have hsz := hL.size
        have hOf := hOg.agr hL.agr (fun b h1 h2 h3 => by omega)
        have hRf := (hRg.agr hL.agr (by omega) (fun b hb e => by have := hRg.le; omega)).mono (n := m + 1200) (by omega)
        have hAf := hAg2.trans (S' := (· = w.heap.size)) hL.agr (fun b hb e => by omega)
        have r0 := hL.new_ 0 _ rfl
        have r1 := hL.new_ 1 _ rfl
        clear hL
        go_wp2
        refine bodyPost_ret (v := .agg #[Value.slice A 4 c, Value.slice (some ⟨db, dO, none⟩) 6 6]) (by simp [results, Try.results107, go_sem, r0, r1, q0, q1]) rfl ⟨A, (some ⟨db, dO, none⟩), c, 6, ⟨s.flash, s.disk.set k3 v4⟩, ?_, hsm2.out, hOf.mono (by omega) (by omega), hRf, hAf⟩
        · rw [List.length_set, HLF.out, HLD.out]
      · go_simp
        refine (P4.out ((m + 501) + 1) _ (by omega) hRk3).mono ?_
        rintro e wk4 ⟨k4, rfl, hk4, hRk4, hAk4⟩
        have hk4' : (k4 : Int) < 4 := by omega
        have hagk4 := hagk3.trans hAk4 (fun _ _ h => h)
        go_wp2_with fail
        refine hK.out _ _ (HD.out _ hagk4) (fun hHk4 => ?_)
        clear hK K
        try simp only [Act.put, jA, jB, jC, jD, jE, jF]
        refine wpAnyH_ready (rs := [4]) (by kernel_rfl) (by simp) ?_
        refine AllReadyH.cons rfl (fun K hK => ?_) AllReadyH.nil
        go_simp
        have hagb := hagk4.alloc (.cells #[.int .i64 (-1), .int .i64 10, .int .i64 0, .int .i64 5] 3)
        have hRb := hRk4.alloc (.cells #[.int .i64 (-1), .int .i64 10, .int .i64 0, .int .i64 5] 3)
        have hbxR : R < (wk4).heap.size := by have := hagk4.size; omega
        have hBt := fun (j : Nat) (u : Value) (hu : ([Value.int .i64 (-1), Value.int .i64 10, Value.int .i64 0, Value.int .i64 5])[j]? = some u) => ((hZ.out (wk4)).at0 hu).1
        refine hK.out _ _ (HD.out _ hagb) (fun hHb => ?_)
        clear hK K
        try simp only [Act.put, jA, jB, jC, jD, jE, jF]
        obtain ⟨v4, hv, hv1, hv2⟩ : ∃ v : Int, ([Value.int .i64 (-1), Value.int .i64 10, Value.int .i64 0, Value.int .i64 5])[k4]? = some (.int .i64 v) ∧ -1 ≤ v ∧ v ≤ 1000 := by
          rcases (by omega : k4 = 0 ∨ k4 = 1 ∨ k4 = 2 ∨ k4 = 3) with rfl | rfl | rfl | rfl <;> exact ⟨_, rfl, by omega, by omega⟩
        have z0 : ((wk4).alloc (.cells #[.int .i64 (-1), .int .i64 10, .int .i64 0, .int .i64 5] 3)).cell? ⟨(wk4).heap.size, k4, none⟩ = some (.int .i64 v4) := hBt _ _ hv
        have hve : ∀ h : k4 < ([Value.int .i64 (-1), Value.int .i64 10, Value.int .i64 0, Value.int .i64 5]).length, ([Value.int .i64 (-1), Value.int .i64 10, Value.int .i64 0, Value.int .i64 5])[k4]'h = .int .i64 v4 := fun h => (List.getElem?_eq_some_iff.1 hv).2
        refine wpAnyH_take (i := 7) (v := ?vz7) rfl (by kernel_rfl) (by kernel_rfl) (by kernel_rfl) (fun _ _ _ h => h) (Or.inl ⟨by kernel_rfl, ?yz7⟩) hHb ?rz7
        case yz7 => (intro w' hS; (try dsimp only at hS); obtain s0 := hS; (try go_simp); (try with_reducible rfl))
        try simp only [Act.put, jA, jB, jC, jD, jE, jF]
        refine wpAnyH_ready (rs := [8]) (by kernel_rfl) (by simp) ?_
        refine AllReadyH.cons rfl (fun K hK => ?_) AllReadyH.nil
        go_simp
        refine hK.out _ _ (HD.out _ hagb) (fun hHz => ?_)
        clear hK K
        try simp only [Act.put, jA, jB, jC, jD, jE, jF]
        refine wpAnyH_take (i := 9) (v := ?vz8) rfl (by kernel_rfl) (by kernel_rfl) (by kernel_rfl) (fun _ _ _ h => h) (Or.inl ⟨by kernel_rfl, ?yz8⟩) hHz ?rz8
        case yz8 => (intro w' hS; (try dsimp only at hS); obtain s0 := hS; (try go_simp); (try with_reducible rfl))
        try simp only [Act.put, jA, jB, jC, jD, jE, jF]
        have hOe := hOd.agr hagb (fun b h1 h2 h3 => by omega)
        obtain ⟨q5, hq5⟩ := get_some (l := s.disk) (k := k3) (by rw [HLD.out]; exact hk3)
        obtain ⟨d0, d1⟩ := hOe.disk.int_ hq5
        have hWd := wrote_one d0 (.int .i64 v4)
        have hOg := hOe.putDisk (k := k3) (v := v4) (by rw [HLD.out]; exact hk3) hWd
        have hAg2 := (hA2d.trans hagb (fun _ _ h => h)).trans (S' := (· = db)) hWd.agr (fun b hb e => by have := hdb; omega)
        have hRg := (hRb.agr hWd.agr (by omega) (fun b hb e => by have := hRb.le; omega))
        have hsX := hagb.size
        have hsY := hWd.size
        refine wpAnyH_ready (rs := [10]) (by kernel_rfl) (by simp) ?_
        refine AllReadyH.cons rfl (fun K hK => ?_) AllReadyH.nil
        go_simp
        refine hK.out _ _ (by first | exact (hWd.agr.cell (b := n1) (by have := hagb.size; omega) (by omega) 1).trans (HD.out _ hagb)) (fun hHy => ?_)
        clear hK K
        try simp only [Act.put, jA, jB, jC, jD, jE, jF]
        replace q0 := (hWd.agr.cell (b := w.heap.size) (by omega) (by omega) 0).trans ((hagb.cell (b := w.heap.size) (by show _ < w2.heap.size; omega) (by omega) 0).trans q0)
        replace q1 := (hWd.agr.cell (b := w.heap.size) (by omega) (by omega) 1).trans ((hagb.cell (b := w.heap.size) (by show _ < w2.heap.size; omega) (by omega) 1).trans q1)
        replace f0 := (hWd.agr.fz (b := w.heap.size) (by omega) (by omega) 0).trans ((hagb.fz (b := w.heap.size) (by show _ < w2.heap.size; omega) (by omega) 0).trans f0)
        replace f1 := (hWd.agr.fz (b := w.heap.size) (by omega) (by omega) 1).trans ((hagb.fz (b := w.heap.size) (by show _ < w2.heap.size; omega) (by omega) 1).trans f1)
        replace b0 := (hWd.agr.cell (b := n1) (by omega) (by omega) 0).trans ((hagb.cell (b := n1) (by show _ < w2.heap.size; omega) (by omega) 0).trans b0)
        replace b1 := (hWd.agr.cell (b := n1) (by omega) (by omega) 1).trans ((hagb.cell (b := n1) (by show _ < w2.heap.size; omega) (by omega) 1).trans b1)
        have hsm2 : stSmall ⟨s.flash, s.disk.set k3 v4⟩ := ⟨hsm.out.1, by rw [List.length_set, HLD.out]; omega⟩
        replace hsm2 := Lib.hid hsm2
        clear hWd hOe hOd z0 d0 d1 hq5 hBt hv
        refine wpAnyH_done (by kernel_rfl) ?_ _
        go_wp2
        have hL := laid_cells q0 q1 (Value.slice A 4 c) (Value.slice (some ⟨db, dO, none⟩) 6 6)
        have hsz := hL.size
        have hOf := hOg.agr hL.agr (fun b h1 h2 h3 => by omega)
        have hRf := (hRg.agr hL.agr (by omega) (fun b hb e => by have := hRg.le; omega)).mono (n := m + 1200) (by omega)
        have hAf := hAg2.trans (S' := (· = w.heap.size)) hL.agr (fun b hb e => by omega)
        have r0 := hL.new_ 0 _ rfl
        have r1 := hL.new_ 1 _ rfl
        clear hL
        go_wp2
        refine bodyPost_ret (v := .agg #[Value.slice A 4 c, Value.slice (some ⟨db, dO, none⟩) 6 6]) (by simp [results, Try.results107, go_sem, r0, r1, q0, q1]) rfl ⟨A, (some ⟨db, dO, none⟩), c, 6, ⟨s.flash, s.disk.set k3 v4⟩, ?_, hsm2.out, hOf.mono (by omega) (by omega), hRf, hAf⟩
        · rw [List.length_set, HLF.out, HLD.out]
    · go_simp
      have hagb := hag0.alloc (.cells #[.int .i64 (-1), .int .i64 10, .int .i64 0, .int .i64 5] 3)
      have hRb := hR2d.alloc (.cells #[.int .i64 (-1), .int .i64 10, .int .i64 0, .int .i64 5] 3)
      have hbxR : R < (w2.drew).heap.size := by have := hag0.size; omega
      have hBt := fun (j : Nat) (u : Value) (hu : ([Value.int .i64 (-1), Value.int .i64 10, Value.int .i64 0, Value.int .i64 5])[j]? = some u) => ((hZ.out (w2.drew)).at0 hu).1
      refine hK.out _ _ (HD.out _ hagb) (fun hHb => ?_)
      clear hK K
      try simp only [Act.put, jA, jB, jC, jD, jE, jF]
      refine wpAnyH_ready (rs := [3]) (by kernel_rfl) (by simp) ?_
      refine AllReadyH.cons rfl (fun K hK => ?_) AllReadyH.nil
      go_simp
      refine (P6.out ((m + 501)) _ (by omega) hRb).mono ?_
      rintro e wk3 ⟨k3, rfl, hk3, hRk3, hAk3⟩
      have hk3' : (k3 : Int) < 6 := by omega
      have hagk3 := hagb.trans hAk3 (fun _ _ h => h)
      replace hBt := fun (j : Nat) (u : Value) (hu : ([Value.int .i64 (-1), Value.int .i64 10, Value.int .i64 0, Value.int .i64 5])[j]? = some u) => (hAk3.cell (b := w2.heap.size) (by have := lt_of_cell (hBt 0 _ rfl); exact this) (by omega) j).trans (hBt j u hu)
      go_wp2_with fail
      refine hK.out _ _ (HD.out _ hagk3) (fun hHk3 => ?_)
      clear hK K
      try simp only [Act.put, jA, jB, jC, jD, jE, jF]
      refine wpAnyH_ready (rs := [6]) (by kernel_rfl) (by simp) ?_
      refine AllReadyH.cons rfl (fun K hK => ?_) AllReadyH.nil
      go_simp
      refine (P4.out ((m + 501) + 1) _ (by omega) hRk3).mono ?_
      rintro e wk4 ⟨k4, rfl, hk4, hRk4, hAk4⟩
      have hk4' : (k4 : Int) < 4 := by omega
      have hagk4 := hagk3.trans hAk4 (fun _ _ h => h)
      replace hBt := fun (j : Nat) (u : Value) (hu : ([Value.int .i64 (-1), Value.int .i64 10, Value.int .i64 0, Value.int .i64 5])[j]? = some u) => (hAk4.cell (b := w2.heap.size) (by have := lt_of_cell (hBt 0 _ rfl); exact this) (by omega) j).trans (hBt j u hu)
      go_wp2_with fail
      refine hK.out _ _ (HD.out _ hagk4) (fun hHk4 => ?_)
      clear hK K
      try simp only [Act.put, jA, jB, jC, jD, jE, jF]
      obtain ⟨v4, hv, hv1, hv2⟩ : ∃ v : Int, ([Value.int .i64 (-1), Value.int .i64 10, Value.int .i64 0, Value.int .i64 5])[k4]? = some (.int .i64 v) ∧ -1 ≤ v ∧ v ≤ 1000 := by
        rcases (by omega : k4 = 0 ∨ k4 = 1 ∨ k4 = 2 ∨ k4 = 3) with rfl | rfl | rfl | rfl <;> exact ⟨_, rfl, by omega, by omega⟩
      have z0 : (wk4).cell? ⟨w2.heap.size, k4, none⟩ = some (.int .i64 v4) := hBt _ _ hv
      have hve : ∀ h : k4 < ([Value.int .i64 (-1), Value.int .i64 10, Value.int .i64 0, Value.int .i64 5]).length, ([Value.int .i64 (-1), Value.int .i64 10, Value.int .i64 0, Value.int .i64 5])[k4]'h = .int .i64 v4 := fun h => (List.getElem?_eq_some_iff.1 hv).2
      refine wpAnyH_take (i := 7) (v := ?vz9) rfl (by kernel_rfl) (by kernel_rfl) (by kernel_rfl) (fun _ _ _ h => h) (Or.inl ⟨by kernel_rfl, ?yz9⟩) hHk4 ?rz9
      case yz9 => (intro w' hS; (try dsimp only at hS); obtain s0 := hS; (try go_simp); (try with_reducible rfl))
      try simp only [Act.put, jA, jB, jC, jD, jE, jF]
      refine wpAnyH_ready (rs := [8]) (by kernel_rfl) (by simp) ?_
      refine AllReadyH.cons rfl (fun K hK => ?_) AllReadyH.nil
      go_simp
      refine hK.out _ _ (HD.out _ hagk4) (fun hHz => ?_)
      clear hK K
      try simp only [Act.put, jA, jB, jC, jD, jE, jF]
      refine wpAnyH_take (i := 9) (v := ?vz10) rfl (by kernel_rfl) (by kernel_rfl) (by kernel_rfl) (fun _ _ _ h => h) (Or.inl ⟨by kernel_rfl, ?yz10⟩) hHz ?rz10
      case yz10 => (intro w' hS; (try dsimp only at hS); obtain s0 := hS; (try go_simp); (try with_reducible rfl))
      try simp only [Act.put, jA, jB, jC, jD, jE, jF]
      have hOe := hOd.agr hagk4 (fun b h1 h2 h3 => by omega)
      obtain ⟨q5, hq5⟩ := get_some (l := s.disk) (k := k3) (by rw [HLD.out]; exact hk3)
      obtain ⟨d0, d1⟩ := hOe.disk.int_ hq5
      have hWd := wrote_one d0 (.int .i64 v4)
      have hOg := hOe.putDisk (k := k3) (v := v4) (by rw [HLD.out]; exact hk3) hWd
      have hAg2 := (hA2d.trans hagk4 (fun _ _ h => h)).trans (S' := (· = db)) hWd.agr (fun b hb e => by have := hdb; omega)
      have hRg := (hRk4.agr hWd.agr (by omega) (fun b hb e => by have := hRk4.le; omega))
      have hsX := hagk4.size
      have hsY := hWd.size
      refine wpAnyH_ready (rs := [10]) (by kernel_rfl) (by simp) ?_
      refine AllReadyH.cons rfl (fun K hK => ?_) AllReadyH.nil
      go_simp
      refine hK.out _ _ (by first | exact (hWd.agr.cell (b := n1) (by have := hagk4.size; omega) (by omega) 1).trans (HD.out _ hagk4)) (fun hHy => ?_)
      clear hK K
      try simp only [Act.put, jA, jB, jC, jD, jE, jF]
      replace q0 := (hWd.agr.cell (b := w.heap.size) (by omega) (by omega) 0).trans ((hagk4.cell (b := w.heap.size) (by show _ < w2.heap.size; omega) (by omega) 0).trans q0)
      replace q1 := (hWd.agr.cell (b := w.heap.size) (by omega) (by omega) 1).trans ((hagk4.cell (b := w.heap.size) (by show _ < w2.heap.size; omega) (by omega) 1).trans q1)
      replace f0 := (hWd.agr.fz (b := w.heap.size) (by omega) (by omega) 0).trans ((hagk4.fz (b := w.heap.size) (by show _ < w2.heap.size; omega) (by omega) 0).trans f0)
      replace f1 := (hWd.agr.fz (b := w.heap.size) (by omega) (by omega) 1).trans ((hagk4.fz (b := w.heap.size) (by show _ < w2.heap.size; omega) (by omega) 1).trans f1)
      replace b0 := (hWd.agr.cell (b := n1) (by omega) (by omega) 0).trans ((hagk4.cell (b := n1) (by show _ < w2.heap.size; omega) (by omega) 0).trans b0)
      replace b1 := (hWd.agr.cell (b := n1) (by omega) (by omega) 1).trans ((hagk4.cell (b := n1) (by show _ < w2.heap.size; omega) (by omega) 1).trans b1)
      have hsm2 : stSmall ⟨s.flash, s.disk.set k3 v4⟩ := ⟨hsm.out.1, by rw [List.length_set, HLD.out]; omega⟩
      replace hsm2 := Lib.hid hsm2
      clear hWd hOe hOd z0 d0 d1 hq5 hBt hv
      refine wpAnyH_done (by kernel_rfl) ?_ _
      go_wp2
      have hL := laid_cells q0 q1 (Value.slice A 4 c) (Value.slice (some ⟨db, dO, none⟩) 6 6)
      have hsz := hL.size
      have hOf := hOg.agr hL.agr (fun b h1 h2 h3 => by omega)
      have hRf := (hRg.agr hL.agr (by omega) (fun b hb e => by have := hRg.le; omega)).mono (n := m + 1200) (by omega)
      have hAf := hAg2.trans (S' := (· = w.heap.size)) hL.agr (fun b hb e => by omega)
      have r0 := hL.new_ 0 _ rfl
      have r1 := hL.new_ 1 _ rfl
      clear hL
      go_wp2
      refine bodyPost_ret (v := .agg #[Value.slice A 4 c, Value.slice (some ⟨db, dO, none⟩) 6 6]) (by simp [results, Try.results107, go_sem, r0, r1, q0, q1]) rfl ⟨A, (some ⟨db, dO, none⟩), c, 6, ⟨s.flash, s.disk.set k3 v4⟩, ?_, hsm2.out, hOf.mono (by omega) (by omega), hRf, hAf⟩
      · rw [List.length_set, HLF.out, HLD.out]
  · have t0 : ((k : Int) == 0) = false := by rw [beq_eq_false_iff_ne]; omega
    by_cases h1 : k = 1
    · have t1 : ((k : Int) == 1) = true := by subst h1; rfl
      clear h0 h1
      obtain ⟨x0, xs', hdk⟩ : ∃ x0 xs', s.disk = x0 :: xs' := by
        have h := HLD.out
        cases hd : s.disk with
        | nil => rw [hd] at h; simp at h
        | cons a l => exact ⟨a, l, rfl⟩
      have hl5 : xs'.length = 5 := by have h := HLD.out; rw [hdk] at h; simpa using h
      have HL5 := Lib.hid hl5
      have hOt : OSt w2 lo hi A s.flash (some ⟨db, dO + 1, none⟩) xs' := by
        obtain ⟨hs, h1, h2, h3, h4⟩ := hO
        refine ⟨hs, h1, h2, ?_, fun b hb => h4 b (by rw [blk_some] at hb ⊢; exact hb)⟩
        have := h3.drop 1
        rw [hdk] at this
        exact this
      have hWb := (wrote_one b1 (.slice (some ⟨db, dO + 1, none⟩) 5 5))
      have hOg := hOt.agr hWb.agr (fun b h1 h2 h3 => by omega)
      have hAg2 := hA2.trans (S' := (· = n1)) hWb.agr (fun b hb e => by omega)
      have hRg := (hR2.agr hWb.agr (by omega) (fun b hb e => by have := hR2.le; omega))
      have hsY := hWb.size
      replace q0 := (hWb.agr.cell (b := w.heap.size) (by omega) (by omega) 0).trans q0
      replace q1 := (hWb.agr.cell (b := w.heap.size) (by omega) (by omega) 1).trans q1
      replace f0 := (hWb.agr.fz (b := w.heap.size) (by omega) (by omega) 0).trans f0
      replace f1 := (hWb.agr.fz (b := w.heap.size) (by omega) (by omega) 1).trans f1
      have c0 := (World.cell?_setCell_other w2 ⟨n1, 1, none⟩ ⟨n1, 0, none⟩ (.slice (some ⟨db, dO + 1, none⟩) 5 5) (by simp)).trans b0
      have c1 := hWb.new_ 0 _ rfl
      rw [Nat.add_zero] at c1
      have hsm2 : stSmall ⟨s.flash, xs'⟩ := ⟨hsm.out.1, by show xs'.length ≤ 6; omega⟩
      replace hsm2 := Lib.hid hsm2
      clear hWb hOt hdk hl5
      go_wp2
      have hL := laid_cells q0 q1 (Value.slice A 4 c) (Value.slice (some ⟨db, dO + 1, none⟩) 5 5)
      have hsz := hL.size
      have hOf := hOg.agr hL.agr (fun b h1 h2 h3 => by omega)
      have hRf := (hRg.agr hL.agr (by omega) (fun b hb e => by have := hRg.le; omega)).mono (n := m + 1200) (by omega)
      have hAf := hAg2.trans (S' := (· = w.heap.size)) hL.agr (fun b hb e => by omega)
      have r0 := hL.new_ 0 _ rfl
      have r1 := hL.new_ 1 _ rfl
      clear hL
      go_wp2
      refine bodyPost_ret (v := .agg #[Value.slice A 4 c, Value.slice (some ⟨db, dO + 1, none⟩) 5 5]) (by simp [results, Try.results107, go_sem, r0, r1, q0, q1]) rfl ⟨A, (some ⟨db, dO + 1, none⟩), c, 5, ⟨s.flash, xs'⟩, ?_, hsm2.out, hOf.mono (by omega) (by omega), hRf, hAf⟩
      · rw [HLF.out, HL5.out]
    · have t1 : ((k : Int) == 1) = false := by rw [beq_eq_false_iff_ne]; omega
      by_cases h2 : k = 2
      · have t2 : ((k : Int) == 2) = true := by subst h2; rfl
        clear h0 h1 h2
        go_wp2_with fail
        refine (spec_l71Flash B R (m + 501) _ (by omega) hR2).mono ?_
        rintro e w3 ⟨g, o, c3, f, rfl, hf, hO3, hR3, hA3⟩
        have HF := Lib.hid hf
        have hs3 := hA3.size
        replace q0 := (hA3.cell (b := w.heap.size) (by omega) (by omega) 0).trans q0
        replace q1 := (hA3.cell (b := w.heap.size) (by omega) (by omega) 1).trans q1
        replace f0 := (hA3.fz (b := w.heap.size) (by omega) (by omega) 0).trans f0
        replace f1 := (hA3.fz (b := w.heap.size) (by omega) (by omega) 1).trans f1
        replace b0 := (hA3.cell (b := n1) (by omega) (by omega) 0).trans b0
        replace b1 := (hA3.cell (b := n1) (by omega) (by omega) 1).trans b1
        replace g0 := (hA3.fz (b := n1) (by omega) (by omega) 0).trans g0
        have hA3' := hA2.trans hA3 (fun _ _ h => h)
        have hWb := wrote_one b0 (.slice (some ⟨g, o, none⟩) f.length c3)
        have hOg := OSt.mk' (lo := w.heap.size + 1) (hi := w3.heap.size) (hO3.agr hWb.agr (fun b h1 h2 h3 => by omega)) ((hO.agr hA3 (fun b h1 h2 h3 => by omega)).agr hWb.agr (fun b h1 h2 h3 => by omega)).disk (by omega) (Nat.le_refl _) (by omega) (by omega) (.inl (by omega))
        have hAg2 := hA3'.trans (S' := (· = n1)) hWb.agr (fun b hb e => by omega)
        have hRg := (hR3.agr hWb.agr (by omega) (fun b hb e => by have := hR3.le; omega))
        have hsY := hWb.size
        replace q0 := (hWb.agr.cell (b := w.heap.size) (by omega) (by omega) 0).trans q0
        replace q1 := (hWb.agr.cell (b := w.heap.size) (by omega) (by omega) 1).trans q1
        replace f0 := (hWb.agr.fz (b := w.heap.size) (by omega) (by omega) 0).trans f0
        replace f1 := (hWb.agr.fz (b := w.heap.size) (by omega) (by omega) 1).trans f1
        have c1 := (World.cell?_setCell_other w3 ⟨n1, 0, none⟩ ⟨n1, 1, none⟩ (.slice (some ⟨g, o, none⟩) f.length c3) (by simp)).trans b1
        have c0 := hWb.new_ 0 _ rfl
        rw [Nat.add_zero] at c0
        have hsm2 : stSmall ⟨f, s.disk⟩ := ⟨HF.out, hsm.out.2⟩
        replace hsm2 := Lib.hid hsm2
        clear hWb hO3 hO hf
        go_wp2
        have hL := laid_cells q0 q1 (Value.slice (some ⟨g, o, none⟩) f.length c3) (Value.slice (some ⟨db, dO, none⟩) 6 6)
        have hsz := hL.size
        have hOf := hOg.agr hL.agr (fun b h1 h2 h3 => by omega)
        have hRf := (hRg.agr hL.agr (by omega) (fun b hb e => by have := hRg.le; omega)).mono (n := m + 1200) (by omega)
        have hAf := hAg2.trans (S' := (· = w.heap.size)) hL.agr (fun b hb e => by omega)
        have r0 := hL.new_ 0 _ rfl
        have r1 := hL.new_ 1 _ rfl
        clear hL
        go_wp2
        refine bodyPost_ret (v := .agg #[Value.slice (some ⟨g, o, none⟩) f.length c3, Value.slice (some ⟨db, dO, none⟩) 6 6]) (by simp [results, Try.results107, go_sem, r0, r1, q0, q1]) rfl ⟨(some ⟨g, o, none⟩), (some ⟨db, dO, none⟩), c3, 6, ⟨f, s.disk⟩, ?_, hsm2.out, hOf.mono (by omega) (by omega), hRf, hAf⟩
        · rw [HLD.out]
      · have t2 : ((k : Int) == 2) = false := by rw [beq_eq_false_iff_ne]; omega
        by_cases h3 : k = 3
        · have t3 : ((k : Int) == 3) = true := by subst h3; rfl
          clear h0 h1 h2 h3
          obtain ⟨hs, hBk, hApt, hDk, hAp⟩ := hO
          obtain ⟨g, o, rfl⟩ := hBk.addr (by intro e; have := HLF.out; rw [e] at this; simp at this)
          have hgt := hApt.top g (blk_some.2 rfl)
          have hgd : ¬ db = g := fun e => (hAp db (blk_some.2 rfl)).2.2.1 (blk_some.2 e.symm)
          go_wp2
          go_loopw [5] (fun i wr => ∃ j : Nat, j ≤ 4 ∧ i = .int .i64 j ∧ Agr (· = g) w2 wr ∧ Bks wr (some ⟨g, o, none⟩) (wornTo s.flash j) hs) (fun i _ => 4 - (intOf i).toNat)
          case atStart => exact ⟨0, by omega, rfl, Agr.refl _ _, hBk⟩
          case round =>
            obtain ⟨j, hj, rfl, hAj, hBj⟩ := hrel
            have y0 := (hAj.cell (b := n1) (by omega) (by omega) 0).trans b0
            have hsj := hAj.size
            by_cases hlt : j < 4
            · obtain ⟨b, hb⟩ := get_some (l := s.flash) (k := j) (by rw [HLF.out]; exact hlt)
              have hbj : (wornTo s.flash j)[j]? = some b := by rw [wornTo_get]; exact hb
              obtain ⟨x, hx, c0, c1, z0, z1, _, _⟩ := hBj.at_ hbj
              have hWw := (wrote_one c1 (.int .i64 200)).less c0
              have hBn := hBj.setHdr (n := 200) hApt hbj hx hWw
              rw [wornTo_step hb] at hBn
              have hAn := hAj.trans hWw.agr (fun _ _ h => h)
              have hj1 : (j : Int) < 4 := by omega
              have e1 : IntKind.i64.wrap ((j : Int) + 1) = (j : Int) + 1 := IntWalk.i64_in _ (by omega)
              clear hb hbj hx hWw hBj hAj
              go_wp2
              go_roundw
              (case rel => exact ⟨j + 1, by omega, by go_num, hAn, hBn⟩)
              (case measure => simp [intOf]; omega)
            · have hj4 : (4 : Int) ≤ (j : Int) := by omega
              have hjj : j = 4 := by omega
              rw [hjj] at hBj
              clear hjj
              have hOg : OSt wr lo hi (some ⟨g, o, none⟩) (wornTo s.flash 4) (some ⟨db, dO, none⟩) s.disk := ⟨hs, hBj, hApt, hDk.agr hAj (fun b hb e => by rw [blk_some] at hb; omega), hAp⟩
              have hAg2 := hA2.trans (S' := (· = g)) hAj (fun b hb e => by omega)
              have hRg := (hR2.agr hAj (by omega) (fun b hb e => by have := hR2.le; omega))
              replace q0 := (hAj.cell (b := w.heap.size) (by omega) (by omega) 0).trans q0
              replace q1 := (hAj.cell (b := w.heap.size) (by omega) (by omega) 1).trans q1
              replace f0 := (hAj.fz (b := w.heap.size) (by omega) (by omega) 0).trans f0
              replace f1 := (hAj.fz (b := w.heap.size) (by omega) (by omega) 1).trans f1
              have y1 := (hAj.cell (b := n1) (by omega) (by omega) 1).trans b1
              have hsm2 := Lib.hid (show stSmall ⟨wornTo s.flash 4, s.disk⟩ from ⟨wornTo_small hsm.out.1 4, hsm.out.2⟩)
              have HWL := Lib.hid (wornTo_len s.flash 4)
              clear hBj hDk
              go_wp2
              have hL := laid_cells q0 q1 (Value.slice (some ⟨g, o, none⟩) 4 c) (Value.slice (some ⟨db, dO, none⟩) 6 6)
              have hsz := hL.size
              have hOf := hOg.agr hL.agr (fun b h1 h2 h3 => by omega)
              have hRf := (hRg.agr hL.agr (by omega) (fun b hb e => by have := hRg.le; omega)).mono (n := m + 1200) (by omega)
              have hAf := hAg2.trans (S' := (· = w.heap.size)) hL.agr (fun b hb e => by omega)
              have r0 := hL.new_ 0 _ rfl
              have r1 := hL.new_ 1 _ rfl
              clear hL
              go_wp2
              refine bodyPost_ret (v := .agg #[Value.slice (some ⟨g, o, none⟩) 4 c, Value.slice (some ⟨db, dO, none⟩) 6 6]) (by simp [results, Try.results107, go_sem, r0, r1, q0, q1]) rfl ⟨(some ⟨g, o, none⟩), (some ⟨db, dO, none⟩), c, 6, ⟨wornTo s.flash 4, s.disk⟩, ?_, hsm2.out, hOf.mono (by omega) (by omega), hRf, hAf⟩
              · rw [HWL.out, HLF.out, HLD.out]
        · have t3 : ((k : Int) == 3) = false := by rw [beq_eq_false_iff_ne]; omega
          clear h0 h1 h2 h3
          go_wp2
          have hL := laid_cells q0 q1 (Value.slice A 4 c) (Value.slice (some ⟨db, dO, none⟩) 6 6)
          have hsz := hL.size
          have hOf := hO.agr hL.agr (fun b h1 h2 h3 => by omega)
          have hRf := (hR2.agr hL.agr (by omega) (fun b hb e => by have := hR2.le; omega)).mono (n := m + 1200) (by omega)
          have hAf := hA2.trans (S' := (· = w.heap.size)) hL.agr (fun b hb e => by omega)
          have r0 := hL.new_ 0 _ rfl
          have r1 := hL.new_ 1 _ rfl
          clear hL
          go_wp2
          refine bodyPost_ret (v := .agg #[Value.slice A 4 c, Value.slice (some ⟨db, dO, none⟩) 6 6]) (by simp [results, Try.results107, go_sem, r0, r1, q0, q1]) rfl ⟨A, (some ⟨db, dO, none⟩), c, 6, s, ?_, hsm.out, hOf.mono (by omega) (by omega), hRf, hAf⟩
          · rw [HLF.out, HLD.out]
end Go.Proofs.Ytbekihiiildgmaa
namespace Go.Proofs.Ytbekihiiildgmaa
set_option linter.unusedVariables false
set_option linter.unusedSimpArgs false
open Go.RowKit Go.Maps
set_option maxHeartbeats 400000
/-- a store in a box, and what it holds -/
structure Held (W : World) (bx : Nat) (A D : Option Addr) (n c m d : Nat) (s : St) : Prop where
  fl : Fl W A s.flash
  dk : Row W D (ints s.disk)
  x0 : W.cell? ⟨bx, 0, none⟩ = some (.slice A n c)
  x1 : W.cell? ⟨bx, 1, none⟩ = some (.slice D m d)
  hn : n = s.flash.length
  hm : m = s.disk.length
theorem Held.below {W X : World} {bx n c m d B : Nat} {A D : Option Addr} {s : St} (h : Held W bx A D n c m d s) (hb : Below B W X) (hB : W.heap.size ≤ B) : Held X bx A D n c m d s :=
  ⟨h.fl.below hb hB, h.dk.below hb hB, (hb.cell (p := ⟨bx, 0, none⟩) (Nat.lt_of_lt_of_le (lt_of_cell h.x0) hB)).trans h.x0, (hb.cell (p := ⟨bx, 1, none⟩) (Nat.lt_of_lt_of_le (lt_of_cell h.x1) hB)).trans h.x1, h.hn, h.hm⟩
theorem Held.new (w : World) {A D : Option Addr} {n c m d : Nat} {s : St} (hF : Fl w A s.flash) (hD : Row w D (ints s.disk)) (hn : n = s.flash.length) (hm : m = s.disk.length) : Held (w.alloc (.cells #[.slice A n c, .slice D m d] 26)) w.heap.size A D n c m d s :=
  ⟨hF.below ((Below.refl _ _).alloc (Nat.le_refl _) _) (Nat.le_refl _), hD.alloc _, by simp, by simp, hn, hm⟩
theorem Held.drew {W : World} {bx n c m d : Nat} {A D : Option Addr} {s : St} (h : Held W bx A D n c m d s) : Held W.drew bx A D n c m d s := ⟨h.fl.drew', h.dk, h.x0, h.x1, h.hn, h.hm⟩
theorem small_fl {s : St} (h : stSmall s) : s.flash.length < 1000000000000 := by have := h.1.1; omega
theorem impl_StoreAll' (s : St) (A D : Option Addr) (n m c d : Nat) (w : World) (hn : n = s.flash.length) (hm : m = s.disk.length) (hF : Fl w A s.flash) (hD : Row w D (ints s.disk)) :
    Calls Try.prog 20 #[.agg #[.slice A n c, .slice D m d]] w fun e w' => ∃ A' c', e = .returned (.slice A' (allSp s).length c') ∧ Row w' A' (ints (allSp s)) ∧ Below w.heap.size w w' := by
  refine (impl_StoreAll s A D n m c d w hn hm hF hD).mono ?_
  rintro e w' ⟨hb, ⟨h, g, rfl, _, hR⟩ | ⟨h, rfl⟩⟩
  · have ha : allSp s = allV s := by unfold allSp; rw [if_pos h]
    exact ⟨_, 6, by rw [ha]; rfl, by rw [ha]; exact hR, hb⟩
  · have ha : allSp s = [] := by unfold allSp; rw [if_neg (by rw [h]; simp)]
    exact ⟨none, 0, by rw [ha]; rfl, by rw [ha]; exact Row.nil _ _, hb⟩
end Go.Proofs.Ytbekihiiildgmaa
namespace Go.Proofs.Ytbekihiiildgmaa
set_option linter.unusedVariables false
set_option linter.unusedSimpArgs false
open Go.RowKit Go.Maps
set_option maxHeartbeats 400000
/-- a store handed back, in memory of the call's own -/
def DoneP (t : St) (w : World) (e : Ending) (w' : World) : Prop :=
  ∃ A c D d, e = .returned (.agg #[.slice A 4 c, .slice D 6 d]) ∧ FlAt w' w.heap.size A t.flash ∧ Row w' D (ints t.disk) ∧ (∀ b, blk D b → w.heap.size ≤ b) ∧ Below w.heap.size w w'
/-- .. and that it was done -/
def RunP (t : St) (w : World) (e : Ending) (w' : World) : Prop :=
  ∃ A c D d, e = .returned (.tuple #[.agg #[.slice A 4 c, .slice D 6 d], .bool true]) ∧ FlAt w' w.heap.size A t.flash ∧ Row w' D (ints t.disk) ∧ (∀ b, blk D b → w.heap.size ≤ b) ∧ Below w.heap.size w w'
/-- not done: an empty store -/
def NoP (w : World) (e : Ending) (w' : World) : Prop :=
  ∃ A c D d, e = .returned (.tuple #[.agg #[.slice A 0 c, .slice D 0 d], .bool false]) ∧ Below w.heap.size w w'
theorem ToPost.run {t : St} {w w' : World} {e : Ending} (ht : Okay t) (h : ToPost (t, true) w e w') : RunP t w e w' := by
  obtain ⟨A, c, D, d, rfl, h1, h2, h3, h4⟩ := h
  exact ⟨A, c, D, d, by dsimp only; rw [flashOk_len ht.flash, ht.len], h1, h2, h3, h4⟩
theorem ToPost.no {w w' : World} {e : Ending} (h : ToPost (st0, false) w e w') : NoP w e w' := by
  obtain ⟨A, c, D, d, rfl, h1, h2, h3, h4⟩ := h
  exact ⟨A, c, D, d, rfl, h4⟩
theorem okay_pages {t : St} (h : Okay t) : ∀ b ∈ t.flash, b.pages.length < 1000000000000 := fun b hb => by have := (flashOk_shape h.flash b hb).1; omega
theorem laws_lqStore_ok {t : St} (ht : Okay t) (A D A' D' : Option Addr) (c d c' d' : Nat) (w : World) (hF : Fl w A t.flash) (hD : Row w D (ints t.disk)) (hF' : Fl w A' t.flash) (hD' : Row w D' (ints t.disk)) :
    Calls Try.prog 17 #[.agg #[.slice A 4 c, .slice D 6 d], .agg #[.slice A' 4 c', .slice D' 6 d']] w fun e w' => e = .returned (.bool true) ∧ Below w.heap.size w w' :=
  laws_lqStore t A D A' D' 4 6 4 6 c d c' d' w (flashOk_len ht.flash).symm ht.len.symm (flashOk_len ht.flash).symm ht.len.symm (by rw [flashOk_len ht.flash]; omega) (okay_pages ht) (by rw [ht.len]; omega) hF hD hF' hD'
theorem laws_lqStore_no (A D A' D' : Option Addr) (c d c' d' : Nat) (w : World) :
    Calls Try.prog 17 #[.agg #[.slice A 0 c, .slice D 0 d], .agg #[.slice A' 0 c', .slice D' 0 d']] w fun e w' => e = .returned (.bool true) ∧ Below w.heap.size w w' :=
  laws_lqStore st0 A D A' D' 0 0 0 0 c d c' d' w rfl rfl rfl rfl (by decide) (fun b hb => by cases hb) (by decide) ⟨[], rfl, Row.nil _ _, fun i b x h => by simp [st0] at h⟩ (Row.nil _ _) ⟨[], rfl, Row.nil _ _, fun i b x h => by simp [st0] at h⟩ (Row.nil _ _)
theorem impl_PlayDo_ok {s : St} (hs : Okay s) (k a b v : Int) (t : Bool) (A D : Option Addr) (c d : Nat) (w : World) (hF : Fl w A s.flash) (hD : Row w D (ints s.disk)) :
    Calls Try.prog 16 #[.agg #[.slice A 4 c, .slice D 6 d], .agg #[.int .i64 k, .int .i64 a, .int .i64 b, .int .i64 v, .bool t]] w (DoneP (doEv s ⟨k, a, b, v, t⟩) w) :=
  (impl_PlayDo s ⟨k, a, b, v, t⟩ A D 4 6 c d w (flashOk_len hs.flash).symm hs.len.symm hF hD).mono fun e w' q => by
    have hok := (doEv_evt hs ⟨k, a, b, v, t⟩).ok
    have hp : plDo s ⟨k, a, b, v, t⟩ = doEv s ⟨k, a, b, v, t⟩ := by unfold plDo; rw [if_pos (storeOk_iff.2 hs)]
    rw [hp] at q
    obtain ⟨A', c', D', d', rfl, h1, h2, h3, h4⟩ := q
    exact ⟨A', c', D', d', by rw [flashOk_len hok.flash, hok.len], h1, h2, h3, h4⟩
theorem impl_StoreAll_ok {s : St} (hs : Okay s) (A D : Option Addr) (c d : Nat) (w : World) (hF : Fl w A s.flash) (hD : Row w D (ints s.disk)) :
    Calls Try.prog 20 #[.agg #[.slice A 4 c, .slice D 6 d]] w fun e w' => ∃ A' c', e = .returned (.slice A' 6 c') ∧ Row w' A' (ints (allV s)) ∧ Below w.heap.size w w' :=
  (impl_StoreAll' s A D 4 6 c d w (flashOk_len hs.flash).symm hs.len.symm hF hD).mono fun e w' q => by
    rw [show allSp s = allV s by unfold allSp; rw [if_pos (storeOk_iff.2 hs)]] at q
    exact q
theorem impl_StoreOk_ok {s : St} (hs : Okay s) (A D : Option Addr) (c d : Nat) (w : World) (hF : Fl w A s.flash) (hD : Row w D (ints s.disk)) :
    Calls Try.prog 21 #[.agg #[.slice A 4 c, .slice D 6 d]] w fun e w' => e = .returned (.bool true) ∧ Below w.heap.size w w' :=
  (impl_StoreOk s A D 4 6 c d w (flashOk_len hs.flash).symm hs.len.symm hF hD).mono fun e w' q => by rw [storeOk_iff.2 hs] at q; exact q
theorem Held.no (w : World) (A D : Option Addr) (c d : Nat) : Held (w.alloc (.cells #[.slice A 0 c, .slice D 0 d] 26)) w.heap.size A D 0 c 0 d st0 :=
  Held.new w (s := st0) ⟨[], rfl, Row.nil _ _, fun i b x h => by simp [st0] at h⟩ (Row.nil _ _) rfl rfl
theorem Held.ok {w : World} {t : St} (ht : Okay t) {A D : Option Addr} (c d : Nat) (hF : Fl w A t.flash) (hD : Row w D (ints t.disk)) : Held (w.alloc (.cells #[.slice A 4 c, .slice D 6 d] 26)) w.heap.size A D 4 c 6 d t :=
  Held.new w hF hD (flashOk_len ht.flash).symm ht.len.symm
theorem laws_lqInts_6 {xs ys : List Int} (h : xs = ys) (h6 : xs.length = 6) (A A' : Option Addr) (c c' : Nat) (w : World) (hR : Row w A (ints xs)) (hR' : Row w A' (ints ys)) :
    Calls Try.prog 30 #[.slice A 6 c, .slice A' 6 c'] w fun e w' => e = .returned (.bool true) ∧ Below w.heap.size w w' :=
  (laws_lqInts A A' 6 6 c c' xs ys w h6.symm (by rw [← h, h6]) (by omega) hR hR').mono fun e w' q => by rw [decide_eq_true h] at q; exact q
/-- a store in a box, put there anew -/
theorem Held.put {W : World} {bx n c m d n' c' m' d' : Nat} {A D A' D' : Option Addr} {s t : St} (h : Held W bx A D n c m d s) (hF : FlAt W (bx + 1) A' t.flash) (hD : Row W D' (ints t.disk)) (hd : ∀ b, blk D' b → bx + 1 ≤ b) (hn : n' = t.flash.length) (hm : m' = t.disk.length) :
    Held ((W.setCell ⟨bx, 0, none⟩ (.slice A' n' c')).setCell ⟨bx, 1, none⟩ (.slice D' m' d')) bx A' D' n' c' m' d' t := by
  have hW : Wrote W ((W.setCell ⟨bx, 0, none⟩ (.slice A' n' c')).setCell ⟨bx, 1, none⟩ (.slice D' m' d')) bx 0 [.slice A' n' c', .slice D' m' d'] := wrote_setRow bx [.slice A' n' c', .slice D' m' d'] 0 W (fun j hj => by
    match j, hj with
    | 0, _ => exact ⟨_, h.x0⟩
    | 1, _ => exact ⟨_, h.x1⟩)
  refine ⟨?_, hD.keep fun b hb hl => hW.block b (by have := hd b hb; omega), hW.new_ 0 _ rfl, hW.new_ 1 _ rfl, hn, hm⟩
  exact (hF.keep (w' := (W.setCell ⟨bx, 0, none⟩ (.slice A' n' c')).setCell ⟨bx, 1, none⟩ (.slice D' m' d')) fun b hb hl => hW.block b (by omega)).fl
theorem FlAt.mono {w : World} {lo lo' : Nat} {A : Option Addr} {f : List Bk} (h : FlAt w lo A f) (hl : lo' ≤ lo) : FlAt w lo' A f := by
  obtain ⟨hs, h1, h2⟩ := h
  exact ⟨hs, h1, fun b hb => Nat.le_trans hl (h2 b hb)⟩
end Go.Proofs.Ytbekihiiildgmaa
