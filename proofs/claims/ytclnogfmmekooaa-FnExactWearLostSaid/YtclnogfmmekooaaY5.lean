/- What the laws' walks share: words, plain laws, and the walks of functions, part 5. -/
import Derived.Test.YtclnogfmmekooaaProg
import Derived.KernelRfl
import Derived.Lib.Hide
import Derived.Laws.MakeOwn
import Derived.BigQuiet
import Derived.Laws.Bits64
import Derived.Deep.Slices
import Derived.Deep.RegionHeld3
import Derived.StillTailTactics
import Derived.Deep.RegionLaw
import Derived.Deep.RegionWith
import Derived.WalkKit
import Derived.Deep.AppendLies
import Derived.Deep.Onto
import Derived.OwnWalk
import Derived.WideShapes
import Derived.Test.YtclnogfmmekooaaY4
namespace Go.Proofs.Ytclnogfmmekooaa
set_option linter.unusedVariables false
set_option linter.unusedSimpArgs false
open Go.Conc Go.ConcN Go.ConcR.Gen Go.RowKit
open Go.ConcR (DC0)
section
variable {P : Program} {Post : Value → World → Prop} {SB : Nat → Prop} {B B' : Nat} {g g' : Goroutine} {w : World}
theorem FineB.mono (h : FineB P Post SB B' g w) (hB : B ≤ B') : FineB P Post SB B g w := fun T d gs sl t q Shun hS h0 hL hP => h T d gs sl t q Shun hS h0 hL (hP.mono hB)
theorem FineB.tp (h : FineB P Post SB B g w) (T : Nat → Question → Nat) (d : Nat) : FineB P Post SB B g (tp w T d) := fun T' d' => h T' d'
theorem FineB.less {SB' : Nat → Prop} (h : FineB P Post SB' B g w) (hs : ∀ b, SB b → SB' b) : FineB P Post SB B g w := fun T d gs sl t q Shun hS h0 hL hP => h T d gs sl t q Shun (fun l hl => let ⟨a, e, hb⟩ := hS l hl; ⟨a, e, hs _ hb⟩) h0 hL hP
theorem fb_ctl (hr : g.status = .running) (h : ∀ w, stepG P true g w = .go g' w #[]) (next : FineB P Post SB B g' w) : FineB P Post SB B g w :=
 FineB.step hr fun T d => ⟨g', Go.Proofs.Ytclnogfmmekooaa.tp w T d, #[], B, h _, Nat.le_refl _, by simp, next.tp T d⟩
/-- Silent steps. -/
theorem FineB.goes {R : World → World → Prop} {gE : Goroutine} (hR : ∀ w T d, R w (Go.Proofs.Ytclnogfmmekooaa.tp w T d)) : ∀ (m : Nat) (g : Goroutine) (w : World), Goes P true R DC0 (fun g _ => g = gE) m g w → FineB P Post SB B gE w → FineB P Post SB B g w
 | 0, g, w, h, next => by
   have : g = gE := h w (hR w w.tape w.drawn)
   rwa [this]
 | m + 1, g, w, h, next => by
   rcases h with h | ⟨hr, h⟩
   · have : g = gE := h w (hR w w.tape w.drawn)
     rwa [this]
   · refine FineB.step hr fun T d => ?_
     obtain ⟨g', w', es, e, ⟨h1, h2⟩, hm⟩ := goes_elim (h _ (hR w T d))
     subst h1 h2
     exact ⟨g', _, _, B, e, Nat.le_refl _, by simp, FineB.goes hR m g' _ hm (next.tp T d)⟩

/-- What is held: the elder blocks stand; these are new. -/
structure PH (w0 : World) (H : List (Nat × Obj)) (w : World) : Prop where
 size : w.heap.size = w0.heap.size + H.length
 old : ∀ b, b < w0.heap.size → w.heap[b]? = w0.heap[b]?
 held : ∀ p ∈ H, w.heap[p.1]? = some p.2
 lo : ∀ p ∈ H, w0.heap.size ≤ p.1
 os : w.os = w0.os
 output : w.output = w0.output
variable {w0 : World} {H : List (Nat × Obj)}
theorem PH.refl (w : World) : PH w [] w := ⟨rfl, fun _ _ => rfl, by simp, by simp, rfl, rfl⟩
theorem PH.tp (h : PH w0 H w) (T : Nat → Question → Nat) (d : Nat) : PH w0 H (Go.Proofs.Ytclnogfmmekooaa.tp w T d) := ⟨h.size, h.old, h.held, h.lo, h.os, h.output⟩
theorem PH.lt (h : PH w0 H w) {p : Nat × Obj} (hp : p ∈ H) : p.1 < w.heap.size := by
 have := h.held p hp
 rcases Nat.lt_or_ge p.1 w.heap.size with hlt | hge
 · exact hlt
 · rw [Array.getElem?_eq_none hge] at this; cases this
theorem PH.push (h : PH w0 H w) (o : Obj) : PH w0 ((w0.heap.size + H.length, o) :: H) { w with heap := w.heap.push o } := by
 have hs := h.size
 have old : ∀ b, b < w.heap.size → (w.heap.push o)[b]? = w.heap[b]? := fun b hb => by rw [Array.getElem?_push_lt hb, ← Array.getElem?_eq_getElem]
 refine ⟨by simp [hs]; omega, fun b hb => (old b (by omega)).trans (h.old b hb), fun p hp => ?_, fun p hp => ?_, h.os, h.output⟩
 · rcases List.mem_cons.1 hp with rfl | hp
   · show (w.heap.push o)[w0.heap.size + H.length]? = _; rw [← hs]; simp
   · exact (old _ (h.lt hp)).trans (h.held p hp)
 · rcases List.mem_cons.1 hp with rfl | hp
   · show w0.heap.size ≤ w0.heap.size + H.length; omega
   · exact h.lo p hp
theorem PH.cell (h : PH w0 H w) {b : Nat} {cs : Array Value} {t : TypeId} (hp : (b, Obj.cells cs t) ∈ H) (j : Nat) : w.cell? ⟨b, j, none⟩ = cs[j]? := by
 have := h.held _ hp
 simp [World.cell?, this]
theorem PH.thaw (h : PH w0 H w) {b : Nat} {cs : Array Value} {t : TypeId} (hp : (b, Obj.cells cs t) ∈ H) (j : Nat) : w.frozen? ⟨b, j, none⟩ = false := by
 have := h.held _ hp
 simp [World.frozen?, this]
theorem PH.set {u j : Nat} {cs : Array Value} {t : TypeId} {v : Value} (h : PH w0 ((u, .cells cs t) :: H) w) (hne : ∀ p ∈ H, p.1 ≠ u) : PH w0 ((u, .cells (cs.setIfInBounds j v) t) :: H) (w.setCell ⟨u, j, none⟩ v) := by
 have hu : w0.heap.size ≤ u := h.lo _ (List.mem_cons_self ..)
 have st : ∀ b, b ≠ u → (w.setCell ⟨u, j, none⟩ v).heap[b]? = w.heap[b]? := fun b hb => Below.heap_setCell w ⟨u, j, none⟩ v b hb
 refine ⟨by have := h.size; simpa [World.setCell] using this, fun b hb => (st b (by omega)).trans (h.old b hb), fun p hp => ?_, fun p hp => ?_, h.os, h.output⟩
 · rcases List.mem_cons.1 hp with rfl | hp
   · exact heap_set_same (h.held _ (List.mem_cons_self ..))
   · exact (st _ (hne p hp)).trans (h.held p (List.mem_cons_of_mem _ hp))
 · rcases List.mem_cons.1 hp with rfl | hp
   · exact hu
   · exact h.lo p (List.mem_cons_of_mem _ hp)

variable {b : Frame} {a : Act} {k : List Item} {cs : List Frame} {ops : Array Oper} {j : Nat} {rest : List Nat} {o : Oper} {v : Value}
theorem fb_val (hF : PH w0 H w) (ho : ops[j]? = some o) (hw : Region.wanted o (yielded ops a.tmps) = true) (hk : b.kind ≠ .early)
 (hrun : ∀ w, PH w0 H w → (execOp a.eval o).run P w = .ok (.value v) w ∧ ∀ e ∈ listed P b.fn a o w, EvF SB B e)
 (next : FineB P Post SB B (G (b.at (a.put o.dst v) (.inRegion ops rest :: k)) cs) w) : FineB P Post SB B (G (b.at a (.inRegion ops (j :: rest) :: k)) cs) w :=
 FineB.step rfl fun T d => ⟨_, Go.Proofs.Ytclnogfmmekooaa.tp w T d, _, B, stepG_value ho hw hk (hrun _ (hF.tp T d)).1, Nat.le_refl _, (hrun _ (hF.tp T d)).2, next.tp T d⟩
theorem fb_new (hF : PH w0 H w) (ho : ops[j]? = some o) (hw : Region.wanted o (yielded ops a.tmps) = true) (hk : b.kind ≠ .early) (ob : Obj)
 (hrun : ∀ w, PH w0 H w → w.heap.size = w0.heap.size + H.length → (execOp a.eval o).run P w = .ok (.value v) { w with heap := w.heap.push ob } ∧ listed P b.fn a o w = #[])
 (next : ∀ w, PH w0 ((w0.heap.size + H.length, ob) :: H) w → FineB P Post SB B (G (b.at (a.put o.dst v) (.inRegion ops rest :: k)) cs) w) : FineB P Post SB B (G (b.at a (.inRegion ops (j :: rest) :: k)) cs) w :=
 FineB.step rfl fun T d => by
  have hF' := hF.tp T d
  obtain ⟨h1, h2⟩ := hrun _ hF' hF'.size
  exact ⟨_, _, #[], B, (stepG_value ho hw hk h1).trans (by rw [h2]), Nat.le_refl _, by simp, next _ (hF'.push ob)⟩
theorem fb_set {H' : List (Nat × Obj)} (hF : PH w0 H w) (ho : ops[j]? = some o) (hw : Region.wanted o (yielded ops a.tmps) = true) (hk : b.kind ≠ .early) (f : World → World)
 (hrun : ∀ w, PH w0 H w → (execOp a.eval o).run P w = .ok .skip (f w) ∧ (∀ e ∈ listed P b.fn a o w, EvF SB B e) ∧ PH w0 H' (f w))
 (next : ∀ w, PH w0 H' w → FineB P Post SB B (G (b.at (a.put o.dst undef) (.inRegion ops rest :: k)) cs) w) : FineB P Post SB B (G (b.at a (.inRegion ops (j :: rest) :: k)) cs) w :=
 FineB.step rfl fun T d => by
  obtain ⟨h1, h2, h3⟩ := hrun _ (hF.tp T d)
  exact ⟨_, _, _, B, stepG_none ho hw hk h1, Nat.le_refl _, h2, next _ h3⟩
/-- The function comes back; it reads no memory. -/
theorem fb_leave {c : Frame} {todo : List Item} {fn : Func} (hn : b.kind = .normal) (hd : a.defers = []) (hf : P.funcs[b.fn]? = some fn)
 (hrun : ∀ w, (results fn a.tmps).run P w = .ok v w ∧ seen P b.fn ((results fn a.tmps).events P w #[]) = #[])
 (next : FineB P Post SB B (G (c.finish v) cs) w) : FineB P Post SB B (G { b.at a todo with mode := .returning } (c :: cs)) w :=
 fb_ctl rfl (fun w₁ => by
  obtain ⟨h1, h2⟩ := hrun w₁
  have hst : stepG P true (G { b.at a todo with mode := .returning } (c :: cs)) w₁ = .go (G (c.finish v) cs) w₁ (seen P b.fn ((results fn a.tmps).events P w₁ #[])) := by
   simp [G, stepG, unwind, doReturn, Frame.at, hn, hd, hf, Sem.runT_eq, h1, GStep.after]
  rw [hst, h2]) next
end
end Go.Proofs.Ytclnogfmmekooaa
namespace Go.Proofs.Ytclnogfmmekooaa
set_option linter.unusedVariables false
set_option linter.unusedSimpArgs false
open Go.Conc Go.ConcN Go.ConcR.Gen Go.RowKit Go.Conc.Lib
open Go.ConcR (KK WgAt DC0)
set_option maxRecDepth 100000
set_option maxHeartbeats 4000000
/-- What is found at each block. -/
def wears (f : List Bk) : List Value := f.flatMap fun b => [.int .i64 b.worn, .int .i64 (tornN b.pages : Int)]
def wres (f : List Bk) (k : Nat) : List (Nat × Value) := match f[k]? with
 | some b => [(k * 2, .int .i64 b.worn), (k * 2 + 1, .int .i64 (tornN b.pages : Int))]
 | none => []
theorem wres_some {f : List Bk} {k : Nat} {b : Bk} (h : f[k]? = some b) : wres f k = [(k * 2, .int .i64 b.worn), (k * 2 + 1, .int .i64 (tornN b.pages : Int))] := by simp [wres, h]
theorem wres_off {f : List Bk} {k off : Nat} {v : Value} (h : (off, v) ∈ wres f k) : off / 2 = k := by
 unfold wres at h
 split at h
 · simp at h; omega
 · simp at h
theorem make_wears (w : World) : (Instr.makeSlice 52 (.int .i64 4) (.int .i64 4)).run Try.prog w = .ok (.slice (some ⟨w.heap.size, 0, none⟩) 4 4) (w.alloc (.cells #[.int .i64 0, .int .i64 0, .int .i64 0, .int .i64 0, .int .i64 0, .int .i64 0, .int .i64 0, .int .i64 0] 55)) := by kernel_rfl
theorem makes_wears (w : World) : (Instr.makeSlice 52 (.int .i64 4) (.int .i64 4)).events Try.prog w #[] = #[] := by kernel_rfl
section
variable {Post : Value → World → Prop} {SB : Nat → Prop} {w0 : World} {A ao c : Nat} {f : List Bk} {hs : List (Option Addr × Nat)} {cc : Frame} {cs : List Frame}
/-- From its entry to its loop. -/
theorem we0 (hSB : ∀ b, SB b → b < w0.heap.size)
 (next : ∀ w T, PH w0 [(w0.heap.size + 3, .cells #[.int .u64 0, .int .u32 0] 87), (w0.heap.size + 2, .cells #[.slice (some ⟨w0.heap.size + 1, 0, none⟩) 4 4] 52), (w0.heap.size + 1, .cells #[.int .i64 0, .int .i64 0, .int .i64 0, .int .i64 0, .int .i64 0, .int .i64 0, .int .i64 0, .int .i64 0] 55), (w0.heap.size, .cells #[.slice (some ⟨A, ao, none⟩) 4 c] 25)] w → T.size = 19 → T[1]? = some (.pointer (some ⟨w0.heap.size, 0, none⟩)) → T[3]? = some (.pointer (some ⟨w0.heap.size + 2, 0, none⟩)) → T[4]? = some (.pointer (some ⟨w0.heap.size + 3, 0, none⟩)) → T[10]? = some (.int .i64 4) → T[11]? = some (.int .i64 0) →
  FineB Try.prog Post SB (w0.heap.size + 3) (G ((base 32).at ⟨T, []⟩ [.code weB, .inLoop weB, .inBlock 0, .code weT]) (cc :: cs)) w) :
 Fine Try.prog Post SB (G (Frame.enter Try.prog 32 #[.slice (some ⟨A, ao, none⟩) 4 c] .normal) (cc :: cs)) w0 := by
 unfold Fine
 refine FineB.mono (B' := w0.heap.size + 3) ?_ (by omega)
 have hF := PH.refl w0
 rw [enter_at _ Try.func32 rfl]
 walk_nrmf Try.f32
 refine fb_ctl rfl (fun w => stepG_seq) ?_
 refine fb_ctl rfl (fun w => stepG_region) ?_
 simp only [List.size_toArray, List.length_cons, List.length_nil, Nat.reduceAdd, Nat.zero_add, List.range, List.range.loop]
 refine fb_new (v := .pointer (some ⟨w0.heap.size, 0, none⟩)) hF rfl rfl (by k_ne) (.cells #[.slice (some ⟨A, ao, none⟩) 4 c] 25) (fun w hw hz => ⟨by simp only [List.length_cons, List.length_nil, Nat.reduceAdd, Nat.add_zero, Nat.zero_add] at hz; rw [← hz]; go_simp, listed_nil (by simp [go_sem, *])⟩) (fun w hF => ?_)
 replace hF : PH w0 [(w0.heap.size, .cells #[.slice (some ⟨A, ao, none⟩) 4 c] 25)] w := hF
 walk_nrm
 refine fb_val hF rfl rfl (by k_ne) (fun w hw => ⟨run_eq_of (fun K hK => by skip; go_simp; exact hK), by rw [listed_nil (by simp [go_sem, *])]; simp⟩) ?_
 walk_nrm
 refine fb_ctl rfl (fun w => stepG_region_end) ?_
 refine fb_ctl rfl (fun w => stepG_seq) ?_
 refine fb_ctl rfl (fun w => stepG_region) ?_
 simp only [List.size_toArray, List.length_cons, List.length_nil, Nat.reduceAdd, Nat.zero_add, List.range, List.range.loop]
 refine fb_val hF rfl rfl (by k_ne) (fun w hw => ⟨run_eq_of (fun K hK => by have h0 : w.cell? ⟨w0.heap.size, 0, none⟩ = some (.slice (some ⟨A, ao, none⟩) 4 c) := (hw.cell (b := w0.heap.size) (cs := #[.slice (some ⟨A, ao, none⟩) 4 c]) (t := 25) (by simp) 0).trans rfl; go_simp; exact hK), by have h0 : w.cell? ⟨w0.heap.size, 0, none⟩ = some (.slice (some ⟨A, ao, none⟩) 4 c) := (hw.cell (b := w0.heap.size) (cs := #[.slice (some ⟨A, ao, none⟩) 4 c]) (t := 25) (by simp) 0).trans rfl; intro e he; have hm := mem_listed he; simp [go_sem, *] at hm; subst hm; exact ⟨fun hs => by have h := hSB _ hs; dsimp only at h; omega, by dsimp only; omega⟩⟩) ?_
 walk_nrm
 refine fb_val hF rfl rfl (by k_ne) (fun w hw => ⟨run_eq_of (fun K hK => by skip; go_simp; exact hK), by rw [listed_nil (by simp [go_sem, *])]; simp⟩) ?_
 walk_nrm
 refine fb_new (v := .slice (some ⟨w0.heap.size + 1, 0, none⟩) 4 4) hF rfl rfl (by k_ne) (.cells #[.int .i64 0, .int .i64 0, .int .i64 0, .int .i64 0, .int .i64 0, .int .i64 0, .int .i64 0, .int .i64 0] 55) (fun w hw hz => ⟨by simp only [List.length_cons, List.length_nil, Nat.reduceAdd, Nat.add_zero, Nat.zero_add] at hz; rw [← hz]; have mk := make_wears w; go_simp, listed_nil (by have mk := makes_wears w; simp [go_sem, *])⟩) (fun w hF => ?_)
 replace hF : PH w0 [(w0.heap.size + 1, .cells #[.int .i64 0, .int .i64 0, .int .i64 0, .int .i64 0, .int .i64 0, .int .i64 0, .int .i64 0, .int .i64 0] 55), (w0.heap.size, .cells #[.slice (some ⟨A, ao, none⟩) 4 c] 25)] w := hF
 walk_nrm
 refine fb_new (v := .pointer (some ⟨w0.heap.size + 2, 0, none⟩)) hF rfl rfl (by k_ne) (.cells #[.slice none 0 0] 52) (fun w hw hz => ⟨by simp only [List.length_cons, List.length_nil, Nat.reduceAdd, Nat.add_zero, Nat.zero_add] at hz; rw [← hz]; go_simp, listed_nil (by simp [go_sem, *])⟩) (fun w hF => ?_)
 replace hF : PH w0 [(w0.heap.size + 2, .cells #[.slice none 0 0] 52), (w0.heap.size + 1, .cells #[.int .i64 0, .int .i64 0, .int .i64 0, .int .i64 0, .int .i64 0, .int .i64 0, .int .i64 0, .int .i64 0] 55), (w0.heap.size, .cells #[.slice (some ⟨A, ao, none⟩) 4 c] 25)] w := hF
 walk_nrm
 refine fb_set hF rfl rfl (by k_ne) (fun w => w.setCell ⟨w0.heap.size + 2, 0, none⟩ (.slice (some ⟨w0.heap.size + 1, 0, none⟩) 4 4)) (fun w hw => ⟨by have h0 : w.cell? ⟨w0.heap.size + 2, 0, none⟩ = some (.slice none 0 0) := (hw.cell (b := w0.heap.size + 2) (cs := #[.slice none 0 0]) (t := 52) (by simp) 0).trans rfl; have z0 := hw.thaw (b := w0.heap.size + 2) (cs := #[.slice none 0 0]) (t := 52) (by simp) 0; go_simp, by have h0 : w.cell? ⟨w0.heap.size + 2, 0, none⟩ = some (.slice none 0 0) := (hw.cell (b := w0.heap.size + 2) (cs := #[.slice none 0 0]) (t := 52) (by simp) 0).trans rfl; have z0 := hw.thaw (b := w0.heap.size + 2) (cs := #[.slice none 0 0]) (t := 52) (by simp) 0; intro e he; have hm := mem_listed he; simp [go_sem, *] at hm; subst hm; exact ⟨fun hs => by have h := hSB _ hs; dsimp only at h; omega, by dsimp only; omega⟩, hw.set (j := 0) (v := .slice (some ⟨w0.heap.size + 1, 0, none⟩) 4 4) (by simp)⟩) (fun w hF => ?_)
 replace hF : PH w0 [(w0.heap.size + 2, .cells #[.slice (some ⟨w0.heap.size + 1, 0, none⟩) 4 4] 52), (w0.heap.size + 1, .cells #[.int .i64 0, .int .i64 0, .int .i64 0, .int .i64 0, .int .i64 0, .int .i64 0, .int .i64 0, .int .i64 0] 55), (w0.heap.size, .cells #[.slice (some ⟨A, ao, none⟩) 4 c] 25)] w := by simpa using hF
 walk_nrm
 refine fb_ctl rfl (fun w => stepG_region_end) ?_
 refine fb_ctl rfl (fun w => stepG_seq) ?_
 refine fb_ctl rfl (fun w => stepG_region) ?_
 simp only [List.size_toArray, List.length_cons, List.length_nil, Nat.reduceAdd, Nat.zero_add, List.range, List.range.loop]
 refine fb_new (v := .pointer (some ⟨w0.heap.size + 3, 0, none⟩)) hF rfl rfl (by k_ne) (.cells #[.int .u64 0, .int .u32 0] 87) (fun w hw hz => ⟨by simp only [List.length_cons, List.length_nil, Nat.reduceAdd, Nat.add_zero, Nat.zero_add] at hz; rw [← hz]; go_simp, listed_nil (by simp [go_sem, *])⟩) (fun w hF => ?_)
 replace hF : PH w0 [(w0.heap.size + 3, .cells #[.int .u64 0, .int .u32 0] 87), (w0.heap.size + 2, .cells #[.slice (some ⟨w0.heap.size + 1, 0, none⟩) 4 4] 52), (w0.heap.size + 1, .cells #[.int .i64 0, .int .i64 0, .int .i64 0, .int .i64 0, .int .i64 0, .int .i64 0, .int .i64 0, .int .i64 0] 55), (w0.heap.size, .cells #[.slice (some ⟨A, ao, none⟩) 4 c] 25)] w := hF
 walk_nrm
 refine fb_ctl rfl (fun w => stepG_region_end) ?_
 refine fb_ctl rfl (fun w => stepG_seq) ?_
 refine fb_ctl rfl (fun w => stepG_seq) ?_
 refine fb_ctl rfl (fun w => stepG_region) ?_
 simp only [List.size_toArray, List.length_cons, List.length_nil, Nat.reduceAdd, Nat.zero_add, List.range, List.range.loop]
 refine fb_val hF rfl rfl (by k_ne) (fun w hw => ⟨run_eq_of (fun K hK => by have h0 : w.cell? ⟨w0.heap.size, 0, none⟩ = some (.slice (some ⟨A, ao, none⟩) 4 c) := (hw.cell (b := w0.heap.size) (cs := #[.slice (some ⟨A, ao, none⟩) 4 c]) (t := 25) (by simp) 0).trans rfl; go_simp; exact hK), by have h0 : w.cell? ⟨w0.heap.size, 0, none⟩ = some (.slice (some ⟨A, ao, none⟩) 4 c) := (hw.cell (b := w0.heap.size) (cs := #[.slice (some ⟨A, ao, none⟩) 4 c]) (t := 25) (by simp) 0).trans rfl; intro e he; have hm := mem_listed he; simp [go_sem, *] at hm; subst hm; exact ⟨fun hs => by have h := hSB _ hs; dsimp only at h; omega, by dsimp only; omega⟩⟩) ?_
 walk_nrm
 refine fb_val hF rfl rfl (by k_ne) (fun w hw => ⟨run_eq_of (fun K hK => by skip; go_simp; exact hK), by rw [listed_nil (by simp [go_sem, *])]; simp⟩) ?_
 walk_nrm
 refine fb_val hF rfl rfl (by k_ne) (fun w hw => ⟨run_eq_of (fun K hK => by skip; go_simp; exact hK), by rw [listed_nil (by simp [go_sem, *])]; simp⟩) ?_
 walk_nrm
 refine fb_ctl rfl (fun w => stepG_region_end) ?_
 refine fb_ctl rfl (fun w => stepG_block) ?_
 refine fb_ctl rfl (fun w => stepG_loop) ?_
 have hh := fun T => next w T hF
 simp only [weB, weT, Try.f32] at hh
 exact hh _ rfl rfl rfl rfl rfl rfl
end
end Go.Proofs.Ytclnogfmmekooaa
namespace Go.Proofs.Ytclnogfmmekooaa
set_option linter.unusedVariables false
set_option linter.unusedSimpArgs false
open Go.Conc Go.ConcN Go.ConcR.Gen Go.RowKit Go.Conc.Lib
open Go.ConcR (KK WgAt DC0)
set_option maxRecDepth 100000
set_option maxHeartbeats 4000000
theorem weE_eq : weE = .seq (.region 10 #[{ dst := some 18, op := .load 52 (.tmp 3), type := 52, pos := "l13_wear.go:34", after := #[], guard := none }, { dst := some 2, op := .assign (.tmp 18), type := 52, pos := "l13_wear.go:34", after := #[{ on := 0, ground := .data }, { on := 0, ground := .phase }], guard := none }] false) .ret := by kernel_rfl
section
variable {Post : Value → World → Prop} {SB : Nat → Prop} {w0 : World} {A ao c : Nat} {f : List Bk} {hs : List (Option Addr × Nat)} {cc : Frame} {cs : List Frame}
/-- From behind Wait's call to the caller. -/
theorem we1 {w : World} {s C : Nat} {T : Array Value} (hT : T.size = 19) (t3 : T[3]? = some (.pointer (some ⟨s, 0, none⟩))) (hs : s < w.heap.size) (hn : ¬ SB s) (hc : w.cell? ⟨s, 0, none⟩ = some (.slice (some ⟨C, 0, none⟩) 4 4))
 (next : Fine Try.prog Post SB (G (cc.finish (.slice (some ⟨C, 0, none⟩) 4 4)) cs) w) : Fine Try.prog Post SB (G ((base 32).at ⟨T, []⟩ (.inRegion opsX [] :: [.code weE])) (cc :: cs)) w := by
 unfold Fine
 have hF := PH.refl w
 refine fb_ctl rfl (fun w => stepG_region_end) ?_
 rw [weE_eq]
 refine fb_ctl rfl (fun w => stepG_seq) ?_
 refine fb_ctl rfl (fun w => stepG_region) ?_
 simp only [List.size_toArray, List.length_cons, List.length_nil, Nat.reduceAdd, Nat.zero_add, List.range, List.range.loop]
 obtain ⟨v0, v1, v2, v3, v4, v5, v6, v7, v8, v9, v10, v11, v12, v13, v14, v15, v16, v17, v18, rfl⟩ := arr19 T hT
 simp only [List.getElem?_toArray, List.getElem?_cons_succ, List.getElem?_cons_zero, Option.some.injEq] at t3
 subst t3
 have hc' : ∀ w', PH w [] w' → w'.cell? ⟨s, 0, none⟩ = some (.slice (some ⟨C, 0, none⟩) 4 4) := fun w' hw => (World.cell?_of_block (a := ⟨s, 0, none⟩) (hw.old s hs)).trans hc
 refine fb_val hF rfl rfl (by k_ne) (fun w' hw => ⟨run_eq_of (fun K hK => by have h0 := hc' w' hw; go_simp; exact hK), by have h0 := hc' w' hw; intro e he; have hm := mem_listed he; simp [go_sem, *] at hm; subst hm; exact ⟨hn, hs⟩⟩) ?_
 walk_nrm
 refine fb_val hF rfl rfl (by k_ne) (fun w hw => ⟨run_eq_of (fun K hK => by go_simp; exact hK), by rw [listed_nil (by simp [go_sem, *])]; simp⟩) ?_
 walk_nrm
 refine fb_ctl rfl (fun w => stepG_region_end) ?_
 refine fb_ctl rfl (fun w => stepG_ret') ?_
 refine fb_leave rfl rfl Try.func32 (fun w => ⟨?_, ?_⟩) next
 · simp [results, Try.f32, go_sem]
 · rw [show (results Try.f32 _).events Try.prog w #[] = #[] by simp [results, Try.f32, go_sem]]
   rfl
/-- ████ impl.wearEach WHOLE. ████ -/
theorem Fine.wearEach (hf : Bks w0 (some ⟨A, ao, none⟩) f hs) (h4 : f.length = 4) (hp4 : ∀ b ∈ f, b.pages.length = 4) (hSB : ∀ b, SB b → b < w0.heap.size) (hN : ∀ b, fblk (some ⟨A, ao, none⟩) hs b → ¬ SB b)
 (next : ∀ w', w0.heap.size + 4 ≤ w'.heap.size → (∀ b, b < w0.heap.size → w'.heap[b]? = w0.heap[b]?) → w'.heap[w0.heap.size + 1]? = some (.cells (wears f).toArray 55) → w'.os = w0.os → w'.output = w0.output →
  Fine Try.prog Post (fun b => SB b ∨ b = w0.heap.size + 3) (G (cc.finish (.slice (some ⟨w0.heap.size + 1, 0, none⟩) 4 4)) cs) w') :
 Fine Try.prog Post SB (G (Frame.enter Try.prog 32 #[.slice (some ⟨A, ao, none⟩) 4 c] .normal) (cc :: cs)) w0 := by
 refine we0 hSB fun w T hF hT t1 t3 t4 t10 t11 => ?_
 have hsz : w.heap.size = w0.heap.size + 4 := hF.size
 obtain ⟨s, es⟩ : ∃ s, w0.heap.size = s := ⟨_, rfl⟩
 have hold : ∀ b, b < s → w.heap[b]? = w0.heap[b]? := by rw [← es]; exact hF.old
 have hF0 := hF.held (w0.heap.size, .cells #[.slice (some ⟨A, ao, none⟩) 4 c] 25) (by simp)
 have hF1 := hF.held (w0.heap.size + 1, .cells #[.int .i64 0, .int .i64 0, .int .i64 0, .int .i64 0, .int .i64 0, .int .i64 0, .int .i64 0, .int .i64 0] 55) (by simp)
 have hF2 := hF.held (w0.heap.size + 2, .cells #[.slice (some ⟨w0.heap.size + 1, 0, none⟩) 4 4] 52) (by simp)
 have hF3 := hF.held (w0.heap.size + 3, .cells #[.int .u64 0, .int .u32 0] 87) (by simp)
 have hos := hF.os
 have hout := hF.output
 clear hF
 simp only [es] at hF0 hF1 hF2 hF3 hsz t1 t3 t4 hSB next ⊢
 let Φ : Ph := { ty := link.tWg, Wg := s + 3, C := s + 1, n0 := s + 4, ety := 55, sz := 8, h0 := w.heap, SB := SB, nw := 4, res := wres f }
 have kk : Φ.Ok := ⟨by show s + 1 < s + 4; omega, by show s + 3 < s + 4; omega, by show s + 1 ≠ s + 3; omega, fun b hb => by
  have h : b < s := hSB b hb
  refine ⟨?_, ?_, ?_⟩
  · show b < s + 4; omega
  · show b ≠ s + 1; omega
  · show b ≠ s + 3; omega, fun i i' off v v' h1 h2 => (wres_off h1).symm.trans (wres_off h2), by show 4 < 1000000; omega⟩
 have blt : ∀ b, fblk (some ⟨A, ao, none⟩) hs b → b < s := by
  intro b hb
  rw [← es]
  rcases hb with hb | ⟨i, x, hx, hb⟩
  · exact hf.row.lt (by
     intro e
     have hl := hdrs_len f hs hf.len
     rw [e, h4] at hl
     simp at hl) hb
  · have hi : i < f.length := by rw [← hf.len]; exact (List.getElem?_eq_some_iff.1 hx).1
    obtain ⟨bk, hbk⟩ := get_some (l := f) (k := i) hi
    have hl := hp4 bk (List.mem_of_getElem? hbk)
    exact (hf.pg i bk x hbk hx).1.lt (pgs_ne (by intro e; rw [e] at hl; simp at hl)) hb
 have hro : ∀ b, fblk (some ⟨A, ao, none⟩) hs b → Φ.Ro b := fun b hb => by
  have := blt b hb
  refine ⟨?_, ?_, ?_, hN b hb⟩
  · show b < s + 4; omega
  · show b ≠ s + 1; omega
  · show b ≠ s + 3; omega
 have nSB : ∀ b, s ≤ b → ¬ SB b := fun b hb h => by have := hSB b h; omega
 have oldc : ∀ w', Φ.Old w' → ∀ b, fblk (some ⟨A, ao, none⟩) hs b → ∀ j, w'.cell? ⟨b, j, none⟩ = w0.cell? ⟨b, j, none⟩ := fun w' ho b hb j => by
  obtain ⟨h1, h2, h3, _⟩ := hro b hb
  exact World.cell?_of_block (a := ⟨b, j, none⟩) ((ho b h1 h2 h3).trans (hold b (blt b hb)))
 have hwk : ∀ k : Nat, k < 4 → ∀ I (S : Nat → Prop) w, S I → Φ.KB [(I, .cells #[.int .i64 (k : Int)] 3)] w → Φ.Loc Try.prog k 7 S 25 (born Try.prog (callW Φ.Wg s I (s + 2))) w := by
  intro k hk I S w' hI hKB
  obtain ⟨bk, hbk⟩ := get_some (l := f) (k := k) (by omega)
  have hl := hp4 bk (List.mem_of_getElem? hbk)
  obtain ⟨x, hx, c1, c2, _, _, hrow, _⟩ := hf.at_ hbk
  have hne : pgs bk.pages ≠ [] := pgs_ne (by intro e; rw [e] at hl; simp at hl)
  obtain ⟨pb, po, hxe, hcell⟩ := hrow hne
  obtain ⟨xa, xc⟩ := x
  simp only at hxe
  subst hxe
  rw [hl] at c1
  have bA : fblk (some ⟨A, ao, none⟩) hs A := .inl rfl
  have bP : fblk (some ⟨A, ao, none⟩) hs pb := .inr ⟨k, _, hx, rfl⟩
  refine worker (Φ := Φ) (F := s) (I := I) (O := s + 2) (A := A) (ao := ao) (k := k) (n := 4) (c := c) (pb := pb) (po := po) (pc := xc) (wn := bk.worn) (ps := bk.pages) ⟨kk, ?_, ?_, hro A bA, hro pb bP, ?_, ?_, ?_, ?_, ?_, hl, hk, by omega, rfl, rfl, wres_some hbk⟩ hI hKB
  · exact ⟨by show s < s + 4; omega, by show s ≠ s + 1; omega, by show s ≠ s + 3; omega, nSB s (Nat.le_refl _)⟩
  · exact ⟨by show s + 2 < s + 4; omega, by show s + 2 ≠ s + 1; omega, by show s + 2 ≠ s + 3; omega, nSB _ (by omega)⟩
  · intro w' ho
    have := ho s (by show s < s + 4; omega) (by show s ≠ s + 1; omega) (by show s ≠ s + 3; omega)
    have e : Φ.h0[s]? = some (.cells #[.slice (some ⟨A, ao, none⟩) 4 c] 25) := hF0
    rw [e] at this
    simp [World.cell?, this]
  · intro w' ho
    have := ho (s + 2) (by show s + 2 < s + 4; omega) (by show s + 2 ≠ s + 1; omega) (by show s + 2 ≠ s + 3; omega)
    have e : Φ.h0[s + 2]? = some (.cells #[.slice (some ⟨s + 1, 0, none⟩) 4 4] 52) := hF2
    rw [e] at this
    simp [World.cell?, this, Φ]
  · exact fun w' ho => (oldc w' ho A bA _).trans c1
  · exact fun w' ho => (oldc w' ho A bA _).trans c2
  · exact fun w' ho j v hv => (oldc w' ho pb bP _).trans (hcell j v hv).1
 have hwg : WgAt link.tWg (s + 3) w 0 0 := hF3
 have hpay : Φ.Pay w := ⟨_, hF1, rfl⟩
 refine FineB.phase (Φ := Φ) (K := KX Φ (s + 2) (cc :: cs)) (An := AnX Φ (s + 2) (cc :: cs)) kk (fun g w h => AnX.run h) (fun g w h => AnX.round kk rfl h) (Nat.le_refl _) (by show 0 < 4; omega) ?_ hwg hpay (fun b h1 h2 h3 => rfl) (by show s + 4 ≤ w.heap.size; omega) ?_
 · intro T' d'
   exact SpStop.spawn (spawns (n := 4) (F := s) kk rfl rfl (by omega) hwk 4 0 rfl T (tp w T' d') hT t1 t3 t4 t10 t11 ⟨⟨fun b h1 h2 h3 => rfl, hpay, by show s + 4 ≤ w.heap.size; omega, by simp, by simp⟩, ⟨0, 0, hwg⟩⟩)
 · rintro g' w' ⟨T', hT', t3', m, hm⟩ ⟨ca, hca, hcs⟩ hold' hwg' hn0' hhas hos' hout'
   have hn0 : s + 4 ≤ w'.heap.size := hn0'
   refine FineB.goes (R := Φ.R none') (fun w T d => ⟨fun _ _ => rfl, id, id, id, id⟩) m g' w' (hm w' ⟨⟨hold', ⟨ca, hca, hcs⟩, hn0', by simp, by simp⟩, ⟨0, 0, hwg'⟩⟩) ?_
   have hO := hold' (s + 2) (by show s + 2 < s + 4; omega) (by show s + 2 ≠ s + 1; omega) (by show s + 2 ≠ s + 3; omega)
   have e : Φ.h0[s + 2]? = some (.cells #[.slice (some ⟨s + 1, 0, none⟩) 4 4] 52) := hF2
   rw [e] at hO
   refine we1 (s := s + 2) (C := s + 1) hT' t3' (by omega) (fun h => h.elim (nSB _ (by omega)) (fun h => by have h : s + 2 = s + 3 := h; omega)) (by simp [World.cell?, hO]) ?_
   refine next w' hn0 (fun b hb => ?_) ?_ (hos'.trans hos) (hout'.trans hout)
   · exact (hold' b (by show b < s + 4; omega) (by show b ≠ s + 1; omega) (by show b ≠ s + 3; omega)).trans (hold b hb)
   · show w'.heap[Φ.C]? = _
     have hca' : w'.heap[Φ.C]? = some (.cells ca 55) := hca
     rw [hca']
     have hcs8 : ca.size = 8 := hcs
     have hlen : (wears f).length = 8 := by
      have := flat_len (fun b : Bk => [.int .i64 b.worn, .int .i64 (tornN b.pages : Int)]) 2 (fun _ => rfl) f
      rw [h4] at this
      exact this
     have : ca = (wears f).toArray := by
      apply Array.ext_getElem?
      intro i
      rcases Nat.lt_or_ge i 8 with hlt | hge
      · obtain ⟨bk, hbk⟩ := get_some (l := f) (k := i / 2) (by omega)
        have h1 := hhas (i / 2) (by show i / 2 < 4; omega)
        have e2 : Φ.res (i / 2) = _ := wres_some hbk
        unfold Ph.Has at h1
        rw [e2] at h1
        have cellC : ∀ j, w'.cell? ⟨Φ.C, j, none⟩ = ca[j]? := fun j => by simp [World.cell?, hca']
        have g0 := flat_get (fun b : Bk => [Value.int .i64 b.worn, .int .i64 (tornN b.pages : Int)]) 2 (fun _ => rfl) f (i / 2) (i % 2) bk hbk (by omega)
        rw [show i / 2 * 2 + i % 2 = i by omega] at g0
        show ca[i]? = (wears f).toArray[i]?
        have gw : (wears f).toArray[i]? = _ := (List.getElem?_toArray ..).trans g0
        rw [gw]
        rcases (by omega : i % 2 = 0 ∨ i % 2 = 1) with h | h
        · have := h1 (i / 2 * 2, .int .i64 bk.worn) (List.mem_cons_self ..)
          simp only [cellC] at this
          rw [show i / 2 * 2 = i by omega] at this
          rw [this, h]; rfl
        · have := h1 (i / 2 * 2 + 1, .int .i64 (tornN bk.pages : Int)) (List.mem_cons_of_mem _ (List.mem_cons_self ..))
          simp only [cellC] at this
          rw [show i / 2 * 2 + 1 = i by omega] at this
          rw [this, h]; rfl
      · rw [Array.getElem?_eq_none (by omega), Array.getElem?_eq_none (by simp; omega)]
     rw [this]
end
end Go.Proofs.Ytclnogfmmekooaa
namespace Go.Proofs.Ytclnogfmmekooaa
set_option linter.unusedVariables false
set_option linter.unusedSimpArgs false
open Go.Conc
/-- The functions that may be called beside leavers. -/
def goodL : List Nat := [11, 12, 13, 15, 16, 18, 19, 21, 22, 23, 24, 25, 26, 27, 28, 29, 30, 31, 33, 34, 35, 36, 37, 38, 39, 40, 41, 42, 43, 44, 45, 46, 47, 48, 49, 53, 55, 56, 57, 58, 59, 60, 61, 62, 63, 64, 65, 66, 85, 86, 87, 88, 89, 95, 96, 97, 98, 99, 100, 101, 102, 103, 104, 105, 106, 107, 108, 109, 110, 111, 112, 113, 114, 115, 116]
def goodF (f : Nat) : Bool := goodL.contains f
def good (d : Option (Nat × Nat × Nat)) : Cfg := ⟨goodF, d⟩
def FnGood (f : Nat) : Prop := ∃ fn c, Try.prog.funcs[f]? = some fn ∧ fn.body = some c ∧ codeOk Try.prog goodF c = true ∧ (fn.name == "runtime.NumGoroutine") = false
theorem g11 : FnGood 11 := ⟨Try.f11, _, Try.func11, rfl, by kernel_rfl, by decide⟩
theorem g12 : FnGood 12 := ⟨Try.f12, _, Try.func12, rfl, by kernel_rfl, by decide⟩
theorem g13 : FnGood 13 := ⟨Try.f13, _, Try.func13, rfl, by kernel_rfl, by decide⟩
theorem g15 : FnGood 15 := ⟨Try.f15, _, Try.func15, rfl, by kernel_rfl, by decide⟩
theorem g16 : FnGood 16 := ⟨Try.f16, _, Try.func16, rfl, by kernel_rfl, by decide⟩
theorem g18 : FnGood 18 := ⟨Try.f18, _, Try.func18, rfl, by kernel_rfl, by decide⟩
theorem g19 : FnGood 19 := ⟨Try.f19, _, Try.func19, rfl, by kernel_rfl, by decide⟩
theorem g21 : FnGood 21 := ⟨Try.f21, _, Try.func21, rfl, by kernel_rfl, by decide⟩
theorem g22 : FnGood 22 := ⟨Try.f22, _, Try.func22, rfl, by kernel_rfl, by decide⟩
theorem g23 : FnGood 23 := ⟨Try.f23, _, Try.func23, rfl, by kernel_rfl, by decide⟩
theorem g24 : FnGood 24 := ⟨Try.f24, _, Try.func24, rfl, by kernel_rfl, by decide⟩
theorem g25 : FnGood 25 := ⟨Try.f25, _, Try.func25, rfl, by kernel_rfl, by decide⟩
theorem g26 : FnGood 26 := ⟨Try.f26, _, Try.func26, rfl, by kernel_rfl, by decide⟩
theorem g27 : FnGood 27 := ⟨Try.f27, _, Try.func27, rfl, by kernel_rfl, by decide⟩
theorem g28 : FnGood 28 := ⟨Try.f28, _, Try.func28, rfl, by kernel_rfl, by decide⟩
theorem g29 : FnGood 29 := ⟨Try.f29, _, Try.func29, rfl, by kernel_rfl, by decide⟩
theorem g30 : FnGood 30 := ⟨Try.f30, _, Try.func30, rfl, by kernel_rfl, by decide⟩
theorem g31 : FnGood 31 := ⟨Try.f31, _, Try.func31, rfl, by kernel_rfl, by decide⟩
theorem g33 : FnGood 33 := ⟨Try.f33, _, Try.func33, rfl, by kernel_rfl, by decide⟩
theorem g34 : FnGood 34 := ⟨Try.f34, _, Try.func34, rfl, by kernel_rfl, by decide⟩
theorem g35 : FnGood 35 := ⟨Try.f35, _, Try.func35, rfl, by kernel_rfl, by decide⟩
theorem g36 : FnGood 36 := ⟨Try.f36, _, Try.func36, rfl, by kernel_rfl, by decide⟩
theorem g37 : FnGood 37 := ⟨Try.f37, _, Try.func37, rfl, by kernel_rfl, by decide⟩
theorem g38 : FnGood 38 := ⟨Try.f38, _, Try.func38, rfl, by kernel_rfl, by decide⟩
theorem g39 : FnGood 39 := ⟨Try.f39, _, Try.func39, rfl, by kernel_rfl, by decide⟩
theorem g40 : FnGood 40 := ⟨Try.f40, _, Try.func40, rfl, by kernel_rfl, by decide⟩
theorem g41 : FnGood 41 := ⟨Try.f41, _, Try.func41, rfl, by kernel_rfl, by decide⟩
theorem g42 : FnGood 42 := ⟨Try.f42, _, Try.func42, rfl, by kernel_rfl, by decide⟩
theorem g43 : FnGood 43 := ⟨Try.f43, _, Try.func43, rfl, by kernel_rfl, by decide⟩
theorem g44 : FnGood 44 := ⟨Try.f44, _, Try.func44, rfl, by kernel_rfl, by decide⟩
theorem g45 : FnGood 45 := ⟨Try.f45, _, Try.func45, rfl, by kernel_rfl, by decide⟩
theorem g46 : FnGood 46 := ⟨Try.f46, _, Try.func46, rfl, by kernel_rfl, by decide⟩
theorem g47 : FnGood 47 := ⟨Try.f47, _, Try.func47, rfl, by kernel_rfl, by decide⟩
theorem g48 : FnGood 48 := ⟨Try.f48, _, Try.func48, rfl, by kernel_rfl, by decide⟩
theorem g49 : FnGood 49 := ⟨Try.f49, _, Try.func49, rfl, by kernel_rfl, by decide⟩
theorem g53 : FnGood 53 := ⟨Try.f53, _, Try.func53, rfl, by kernel_rfl, by decide⟩
theorem g55 : FnGood 55 := ⟨Try.f55, _, Try.func55, rfl, by kernel_rfl, by decide⟩
theorem g56 : FnGood 56 := ⟨Try.f56, _, Try.func56, rfl, by kernel_rfl, by decide⟩
theorem g57 : FnGood 57 := ⟨Try.f57, _, Try.func57, rfl, by kernel_rfl, by decide⟩
theorem g58 : FnGood 58 := ⟨Try.f58, _, Try.func58, rfl, by kernel_rfl, by decide⟩
theorem g59 : FnGood 59 := ⟨Try.f59, _, Try.func59, rfl, by kernel_rfl, by decide⟩
theorem g60 : FnGood 60 := ⟨Try.f60, _, Try.func60, rfl, by kernel_rfl, by decide⟩
theorem g61 : FnGood 61 := ⟨Try.f61, _, Try.func61, rfl, by kernel_rfl, by decide⟩
theorem g62 : FnGood 62 := ⟨Try.f62, _, Try.func62, rfl, by kernel_rfl, by decide⟩
theorem g63 : FnGood 63 := ⟨Try.f63, _, Try.func63, rfl, by kernel_rfl, by decide⟩
theorem g64 : FnGood 64 := ⟨Try.f64, _, Try.func64, rfl, by kernel_rfl, by decide⟩
theorem g65 : FnGood 65 := ⟨Try.f65, _, Try.func65, rfl, by kernel_rfl, by decide⟩
theorem g66 : FnGood 66 := ⟨Try.f66, _, Try.func66, rfl, by kernel_rfl, by decide⟩
theorem g85 : FnGood 85 := ⟨Try.f85, _, Try.func85, rfl, by kernel_rfl, by decide⟩
theorem g86 : FnGood 86 := ⟨Try.f86, _, Try.func86, rfl, by kernel_rfl, by decide⟩
theorem g87 : FnGood 87 := ⟨Try.f87, _, Try.func87, rfl, by kernel_rfl, by decide⟩
theorem g88 : FnGood 88 := ⟨Try.f88, _, Try.func88, rfl, by kernel_rfl, by decide⟩
theorem g89 : FnGood 89 := ⟨Try.f89, _, Try.func89, rfl, by kernel_rfl, by decide⟩
theorem g95 : FnGood 95 := ⟨Try.f95, _, Try.func95, rfl, by kernel_rfl, by decide⟩
theorem g96 : FnGood 96 := ⟨Try.f96, _, Try.func96, rfl, by kernel_rfl, by decide⟩
theorem g97 : FnGood 97 := ⟨Try.f97, _, Try.func97, rfl, by kernel_rfl, by decide⟩
theorem g98 : FnGood 98 := ⟨Try.f98, _, Try.func98, rfl, by kernel_rfl, by decide⟩
theorem g99 : FnGood 99 := ⟨Try.f99, _, Try.func99, rfl, by kernel_rfl, by decide⟩
theorem g100 : FnGood 100 := ⟨Try.f100, _, Try.func100, rfl, by kernel_rfl, by decide⟩
theorem g101 : FnGood 101 := ⟨Try.f101, _, Try.func101, rfl, by kernel_rfl, by decide⟩
theorem g102 : FnGood 102 := ⟨Try.f102, _, Try.func102, rfl, by kernel_rfl, by decide⟩
theorem g103 : FnGood 103 := ⟨Try.f103, _, Try.func103, rfl, by kernel_rfl, by decide⟩
theorem g104 : FnGood 104 := ⟨Try.f104, _, Try.func104, rfl, by kernel_rfl, by decide⟩
theorem g105 : FnGood 105 := ⟨Try.f105, _, Try.func105, rfl, by kernel_rfl, by decide⟩
theorem g106 : FnGood 106 := ⟨Try.f106, _, Try.func106, rfl, by kernel_rfl, by decide⟩
theorem g107 : FnGood 107 := ⟨Try.f107, _, Try.func107, rfl, by kernel_rfl, by decide⟩
theorem g108 : FnGood 108 := ⟨Try.f108, _, Try.func108, rfl, by kernel_rfl, by decide⟩
theorem g109 : FnGood 109 := ⟨Try.f109, _, Try.func109, rfl, by kernel_rfl, by decide⟩
theorem g110 : FnGood 110 := ⟨Try.f110, _, Try.func110, rfl, by kernel_rfl, by decide⟩
theorem g111 : FnGood 111 := ⟨Try.f111, _, Try.func111, rfl, by kernel_rfl, by decide⟩
theorem g112 : FnGood 112 := ⟨Try.f112, _, Try.func112, rfl, by kernel_rfl, by decide⟩
theorem g113 : FnGood 113 := ⟨Try.f113, _, Try.func113, rfl, by kernel_rfl, by decide⟩
theorem g114 : FnGood 114 := ⟨Try.f114, _, Try.func114, rfl, by kernel_rfl, by decide⟩
theorem g115 : FnGood 115 := ⟨Try.f115, _, Try.func115, rfl, by kernel_rfl, by decide⟩
theorem g116 : FnGood 116 := ⟨Try.f116, _, Try.func116, rfl, by kernel_rfl, by decide⟩
def AllGood : List Nat → Prop
 | [] => True
 | f :: l => FnGood f ∧ AllGood l
theorem AllGood.mem : ∀ {l : List Nat} {f : Nat}, AllGood l → f ∈ l → FnGood f
 | [], _, _, h => by cases h
 | g :: l, f, h, hm => (List.mem_cons.1 hm).elim (fun e => e ▸ h.1) fun hm => AllGood.mem h.2 hm
theorem cleanP (d : Option (Nat × Nat × Nat)) : Clean1 Try.prog (good d) := by
 refine ⟨fun f hf => AllGood.mem (l := goodL) ⟨g11, g12, g13, g15, g16, g18, g19, g21, g22, g23, g24, g25, g26, g27, g28, g29, g30, g31, g33, g34, g35, g36, g37, g38, g39, g40, g41, g42, g43, g44, g45, g46, g47, g48, g49, g53, g55, g56, g57, g58, g59, g60, g61, g62, g63, g64, g65, g66, g85, g86, g87, g88, g89, g95, g96, g97, g98, g99, g100, g101, g102, g103, g104, g105, g106, g107, g108, g109, g110, g111, g112, g113, g114, g115, g116, trivial⟩ (by simpa [good, goodF] using hf), fun t i v ht hi hv => ?_⟩
 have h : (Try.prog.types.toList.all fun i => match i.zero with | some v => plainV v | none => true) = true := by kernel_rfl
 rw [List.all_eq_true] at h
 have := h i (Array.mem_toList_iff.2 (Array.mem_of_getElem? hi))
 rw [hv] at this
 exact this
end Go.Proofs.Ytclnogfmmekooaa
namespace Go.Proofs.Ytclnogfmmekooaa
set_option linter.unusedVariables false
set_option linter.unusedSimpArgs false
open Go.Conc Go.ConcN Go.ConcR.Gen Go.RowKit
/-- Makes memory only, whatever the tape. -/
structure Bel (w w' : World) : Prop where
 os : w'.os = w.os
 output : w'.output = w.output
 size : w.heap.size ≤ w'.heap.size
 block : ∀ b, b < w.heap.size → w'.heap[b]? = w.heap[b]?
theorem Bel.refl (w : World) : Bel w w := ⟨rfl, rfl, Nat.le_refl _, fun _ _ => rfl⟩
theorem Bel.trans {a b c : World} (h : Bel a b) (k : Bel b c) : Bel a c := ⟨k.os.trans h.os, k.output.trans h.output, Nat.le_trans h.size k.size, fun x hx => (k.block x (Nat.lt_of_lt_of_le hx h.size)).trans (h.block x hx)⟩
theorem Bel.more {a w w' : World} (h : Bel a w) (hs : w'.heap.size = w.heap.size) (ho : w'.os = w.os) (hp : w'.output = w.output) (hb : ∀ b, b < a.heap.size → w'.heap[b]? = w.heap[b]?) : Bel a w' := ⟨ho.trans h.os, hp.trans h.output, by rw [hs]; exact h.size, fun b x => (hb b x).trans (h.block b x)⟩
theorem Bel.bl {w w' : World} (h : Bel w w') : Below w.heap.size w { w' with tape := w.tape } := ⟨h.os, rfl, h.output, h.size, h.block⟩
theorem Bel.cell {w w' : World} (h : Bel w w') {b : Nat} (hb : b < w.heap.size) (j : Nat) : w'.cell? ⟨b, j, none⟩ = w.cell? ⟨b, j, none⟩ := World.cell?_of_block (a := ⟨b, j, none⟩) (h.block b hb)
theorem Fl.bel {w w' : World} {A : Option Addr} {f : List Bk} (h : Fl w A f) (k : Bel w w') : Fl w' A f := by
 obtain ⟨hs, h⟩ := h
 exact ⟨hs, h.keep fun b _ hl => k.block b hl⟩
theorem Bel.tp (w : World) (T : Nat → Question → Nat) (d : Nat) : Bel w (Go.Proofs.Ytclnogfmmekooaa.tp w T d) := ⟨rfl, rfl, Nat.le_refl _, fun _ _ => rfl⟩
/-- What is held of the world: A is closed, apart from what is shunned; what was there at the call stands. -/
structure Co (G : Cfg) (SB A : Nat → Prop) (w0 w : World) : Prop where
 hin : HIn Try.prog G A (cutW G w)
 away : Away SB A (cutW G w)
 bel : Bel w0 w
section
variable {G : Cfg} {SB A : Nat → Prop} {w0 w : World} {Post : Value → World → Prop}
theorem Co.tp (h : Co G SB A w0 w) (T : Nat → Question → Nat) (d : Nat) : Co G SB A w0 (tp w T d) := by
 have e : cutW G (Go.Proofs.Ytclnogfmmekooaa.tp w T d) = Go.Proofs.Ytclnogfmmekooaa.tp (cutW G w) T d := cut_tp G w T d
 exact ⟨by rw [e]; exact h.hin.tp T d, by rw [e]; exact h.away, ⟨h.bel.os, h.bel.output, h.bel.size, h.bel.block⟩⟩
theorem Co.dead (h : Co G SB A w0 w) : ∀ c l hi, G.dead = some (c, l, hi) → c < w.heap.size := cut_there h.hin.there
theorem Co.lt (h : Co G SB A w0 w) {b : Nat} (hb : A b) : b < w.heap.size := by have := h.hin.lt hb; rwa [cut_size] at this
theorem Co.shun (h : Co G SB A w0 w) {b : Nat} (hb : SB b) : b < w.heap.size := by have := (h.away b hb).2; rwa [cut_size] at this
theorem Co.push (h : Co G SB A w0 w) (o : Obj) : Co G SB A w0 { w with heap := w.heap.push o } := by
 have e := cut_push h.dead o
 have hs : (cutW G { w with heap := w.heap.push o }).heap.size = (cutW G w).heap.size + 1 := by rw [cut_size, cut_size]; simp
 refine ⟨⟨fun r hr => ?_, fun c l hi x => by rw [hs]; have := h.hin.there c l hi x; omega⟩, fun b hb => ⟨(h.away b hb).1, by rw [hs]; have := (h.away b hb).2; omega⟩, h.bel.trans ⟨rfl, rfl, by simp, fun b hb => getElem?_push_old _ _ hb⟩⟩
 obtain ⟨x, hx, hin⟩ := h.hin.obj r hr
 refine ⟨x, ?_, hin⟩
 rw [e]
 show ((cutW G w).heap.push o)[r]? = _
 rw [getElem?_push_old _ _ (h.hin.lt hr)]
 exact hx
theorem Co.setCell (h : Co G SB A w0 w) {b : Nat} (j : Nat) (v : Value) (hA : ¬ A b) (hb : w0.heap.size ≤ b) : Co G SB A w0 (w.setCell ⟨b, j, none⟩ v) := by
 have e := cut_setCell (G := G) (w := w) ⟨b, j, none⟩ v
 have hs : (cutW G (w.setCell ⟨b, j, none⟩ v)).heap.size = (cutW G w).heap.size := by rw [cut_size, cut_size]; simp [World.setCell]
 refine ⟨⟨fun r hr => ?_, fun c l hi x => by rw [hs]; exact h.hin.there c l hi x⟩, fun b hb => ⟨(h.away b hb).1, by rw [hs]; exact (h.away b hb).2⟩, h.bel.more (by simp [World.setCell]) rfl rfl fun x hx => ?_⟩
 · obtain ⟨x, hx, hin⟩ := h.hin.obj r hr
   refine ⟨x, ?_, hin⟩
   rw [e]
   exact (Below.heap_setCell _ ⟨b, j, none⟩ v r (fun x => hA (by rw [show b = r from x.symm]; exact hr))).trans hx
 · exact Below.heap_setCell _ ⟨b, j, none⟩ v x (by show x ≠ b; omega)
/-- What is held stays so while nothing that is held turns. -/
theorem Co.keep {w' : World} (h : Co G SB A w0 w) (k : Bel w w') : Co G SB A w0 w' := by
 have hs : (cutW G w).heap.size ≤ (cutW G w').heap.size := by rw [cut_size, cut_size]; exact k.size
 refine ⟨⟨fun r hr => ?_, fun c l hi x => Nat.lt_of_lt_of_le (h.hin.there c l hi x) hs⟩, fun b hb => ⟨(h.away b hb).1, Nat.lt_of_lt_of_le (h.away b hb).2 hs⟩, h.bel.trans k⟩
 obtain ⟨x, hx, hin⟩ := h.hin.obj r hr
 refine ⟨x, ?_, hin⟩
 rw [← hx]
 have hr' := h.lt hr
 unfold cutW
 split
 · show (w'.heap.modify _ _)[r]? = (w.heap.modify _ _)[r]?
   simp only [Array.getElem?_modify, k.block r hr']
 · exact k.block r hr'
theorem Bel.cut {w' : World} (k : Bel w w') : Bel (cutW G w) (cutW G w') := by
 refine ⟨by rw [cut_os, cut_os, k.os], by rw [cut_output, cut_output, k.output], by rw [cut_size, cut_size]; exact k.size, fun b hb => ?_⟩
 rw [cut_size] at hb
 unfold cutW
 split
 · show (w'.heap.modify _ _)[b]? = (w.heap.modify _ _)[b]?
   simp only [Array.getElem?_modify, k.block b hb]
 · exact k.block b hb
theorem Bel.uncut {w' : World} (k : Bel (cutW G w) (cutW G w')) (ht : Tail G w w') : Bel w w' := by
 refine ⟨by have := k.os; rwa [cut_os, cut_os] at this, by have := k.output; rwa [cut_output, cut_output] at this, by have := k.size; rwa [cut_size, cut_size] at this, fun b hb => ht.same (k.block b (by rw [cut_size]; exact hb))⟩
end
section
variable {SB A : Nat → Prop} {w0 w : World} {Post : Value → World → Prop}
/-! ### the words -/
variable {g g' : Goroutine} {b : Frame} {a : Act} {k : List Item} {cs : List Frame} {ops : Array Oper} {j : Nat} {rest : List Nat} {o : Oper} {v : Value} {P : Program} {F F' : World → Prop}
theorem Fine.tp (h : Fine P Post SB g w) (T : Nat → Question → Nat) (d : Nat) : Fine P Post SB g (tp w T d) := fun T' d' => h T' d'
theorem f_ctl (hr : g.status = .running) (h : ∀ w, stepG P true g w = .go g' w #[]) (next : Fine P Post SB g' w) : Fine P Post SB g w := fb_ctl hr h next
theorem f_val (hT : ∀ w T d, F w → F (tp w T d)) (hF : F w) (ho : ops[j]? = some o) (hw : Region.wanted o (yielded ops a.tmps) = true) (hk : b.kind ≠ .early)
 (hrun : ∀ w, F w → (execOp a.eval o).run P w = .ok (.value v) w ∧ ∀ e ∈ listed P b.fn a o w, EvF SB w.heap.size e)
 (next : Fine P Post SB (G (b.at (a.put o.dst v) (.inRegion ops rest :: k)) cs) w) : Fine P Post SB (G (b.at a (.inRegion ops (j :: rest) :: k)) cs) w :=
 Fine.step rfl fun T d => ⟨_, Go.Proofs.Ytclnogfmmekooaa.tp w T d, _, stepG_value ho hw hk (hrun _ (hT w T d hF)).1, Nat.le_refl _, (hrun _ (hT w T d hF)).2, next.tp T d⟩
theorem f_new (hT : ∀ w T d, F w → F (tp w T d)) (hF : F w) (ho : ops[j]? = some o) (hw : Region.wanted o (yielded ops a.tmps) = true) (hk : b.kind ≠ .early) (v : Nat → Value) (ob : Obj)
 (hrun : ∀ w, F w → (execOp a.eval o).run P w = .ok (.value (v w.heap.size)) { w with heap := w.heap.push ob } ∧ listed P b.fn a o w = #[])
 (next : ∀ w, F w → Fine P Post SB (G (b.at (a.put o.dst (v w.heap.size)) (.inRegion ops rest :: k)) cs) { w with heap := w.heap.push ob }) : Fine P Post SB (G (b.at a (.inRegion ops (j :: rest) :: k)) cs) w :=
 Fine.step rfl fun T d => by
  have hF' := hT w T d hF
  obtain ⟨h1, h2⟩ := hrun _ hF'
  exact ⟨_, _, #[], (stepG_value ho hw hk h1).trans (by rw [h2]), by simp only [Array.size_push]; exact Nat.le_succ _, by simp, next _ hF'⟩
theorem f_set (hT : ∀ w T d, F w → F (tp w T d)) (hF : F w) (ho : ops[j]? = some o) (hw : Region.wanted o (yielded ops a.tmps) = true) (hk : b.kind ≠ .early) (f : World → World)
 (hrun : ∀ w, F w → (execOp a.eval o).run P w = .ok .skip (f w) ∧ (f w).heap.size = w.heap.size ∧ (∀ e ∈ listed P b.fn a o w, EvF SB w.heap.size e) ∧ F' (f w))
 (next : ∀ w, F' w → Fine P Post SB (G (b.at (a.put o.dst undef) (.inRegion ops rest :: k)) cs) w) : Fine P Post SB (G (b.at a (.inRegion ops (j :: rest) :: k)) cs) w :=
 Fine.step rfl fun T d => by
  obtain ⟨h1, h2, h3, h4⟩ := hrun _ (hT w T d hF)
  exact ⟨_, _, _, stepG_none ho hw hk h1, by rw [h2]; exact Nat.le_refl _, by rw [h2]; exact h3, next _ h4⟩
theorem f_enter {f : FuncId} {fn : Func} {c : Code} {args : Array Operand} {ats : Array TypeId} (ho : ops[j]? = some o) (hw : Region.wanted o (yielded ops a.tmps) = true) (hk : b.kind ≠ .early) (hop : o.op = .call { callee := .value (.func f), args, argTypes := ats })
 (hf : P.funcs[f]? = some fn) (hname : (fn.name == "runtime.NumGoroutine") = false) (hb : fn.body = some c)
 (next : Fine P Post SB (G (Frame.enter P f (args.map a.eval) .normal) (b.at a (.inRegion ops (j :: rest) :: k) :: cs)) w) : Fine P Post SB (G (b.at a (.inRegion ops (j :: rest) :: k)) cs) w :=
 f_ctl rfl (fun w => by
  obtain ⟨g', w', es, e, rfl, rfl, rfl⟩ := goes_elim (goes_call (P := P) (main := true) (cs := cs) (k := k) (b := b) (a := a) (w := w) (rest := rest) (K := fun g' w' es => g' = G (Frame.enter P f (args.map a.eval) .normal) (b.at a (.inRegion ops (j :: rest) :: k) :: cs) ∧ w' = w ∧ es = #[]) ho hw hk hop hf hname hb ⟨by rw [enter_at _ hf hb], rfl, rfl⟩)
  exact e) next
theorem f_leave {c : Frame} {todo : List Item} {fn : Func} (hn : b.kind = .normal) (hd : a.defers = []) (hf : P.funcs[b.fn]? = some fn)
 (hrun : ∀ w, (results fn a.tmps).run P w = .ok v w ∧ seen P b.fn ((results fn a.tmps).events P w #[]) = #[])
 (next : Fine P Post SB (G (c.finish v) cs) w) : Fine P Post SB (G { b.at a todo with mode := .returning } (c :: cs)) w := fb_leave hn hd hf hrun next
/-- A lone contract. -/
theorem Co.call {Gd : Option (Nat × Nat × Nat)} {f : FuncId} {args : Array Value} {R : Value → World → Prop} {c : Frame} {rest : List Frame} (co : Co (good Gd) SB A w0 w) (hR : ∀ v w T d, R v (Go.Proofs.Ytclnogfmmekooaa.tp w T d) → R v w) (hf : goodF f = true) (ha : ∀ v ∈ args, VIn (good Gd) A v)
 (hc : ∀ T d, Calls Try.prog f args (Go.Proofs.Ytclnogfmmekooaa.tp (cutW (good Gd) w) T d) fun e w' => ∃ v, e = .returned v ∧ R v w' ∧ Below (cutW (good Gd) w).heap.size (Go.Proofs.Ytclnogfmmekooaa.tp (cutW (good Gd) w) T d) w')
 (next : ∀ A' v w', (∀ b, A b → A' b) → Co (good Gd) SB A' w0 w' → Bel w w' → VIn (good Gd) A' v → R v (cutW (good Gd) w') → Fine Try.prog Post SB (G (c.finish v) rest) w') : Fine Try.prog Post SB (G (Frame.enter Try.prog f args .normal) (c :: rest)) w := by
 refine Fine.call (P := Try.prog) (G := good Gd) (A := A) (wR := w) (cleanP Gd) (Q := fun v w' => R v w' ∧ Bel (cutW (good Gd) w) w') hf ha co.hin co.away (fun v w T d h => ⟨hR v w T d h.1, ⟨h.2.os, h.2.output, h.2.size, h.2.block⟩⟩) (fun T d => (hc T d).mono fun e w' ⟨v, h1, h2, h3⟩ => ⟨v, h1, h2, ⟨h3.os, h3.output, h3.size, h3.block⟩⟩) ?_
 intro A' v w' ht hk hh hv hq
 have hb := Bel.uncut hq.2 ht
 exact next A' v w' hk.grow ⟨hh, co.away.kept hk, co.bel.trans hb⟩ hb hv hq.1
/-- What lies in a flash lies within the set. -/
theorem fblk_in {Gc : Cfg} {ad : Option Addr} {f : List Bk} {hs : List (Option Addr × Nat)} {n c : Nat} (hin : HIn Try.prog Gc A w) (hv : VIn Gc A (.slice ad n c)) (hf : Bks w ad f hs) (hne : f ≠ []) (hp : ∀ b ∈ f, b.pages ≠ []) : ∀ b, fblk ad hs b → A b := by
 obtain ⟨bk, off, rfl⟩ := hf.addr hne
 have hA : Ina Gc A ⟨bk, off, none⟩ := by cases hv; assumption
 rintro b (hb | ⟨i, x, hx, hb⟩)
 · rw [← blk_some.1 hb]; exact hA.blk
 · have hi : i < f.length := by rw [← hf.len]; exact (List.getElem?_eq_some_iff.1 hx).1
   obtain ⟨b', hb'⟩ := get_some hi
   obtain ⟨x', hx', c1, _⟩ := hf.at_ hb'
   rw [hx] at hx'; cases hx'
   have hv1 := cell_in hin (a := ⟨bk, off + i * 2, none⟩) ⟨hA.blk, Nat.le_trans hA.low (Nat.le_add_right _ _)⟩ c1
   obtain ⟨xa, xc⟩ := x
   simp only at hb hv1
   cases xa with
   | none => cases hb
   | some ad => cases hv1; rename_i h; cases hb; exact h.blk
/-- impl.wearEach. -/
theorem Co.wearEach {Gd : Option (Nat × Nat × Nat)} {ad : Option Addr} {f : List Bk} {c : Nat} {cc : Frame} {rest : List Frame} (co : Co (good Gd) SB A w0 w) (hv : VIn (good Gd) A (.slice ad 4 c)) (hf : Fl (cutW (good Gd) w) ad f) (h4 : f.length = 4) (hp4 : ∀ b ∈ f, b.pages.length = 4)
 (next : ∀ w' C W, Co (good Gd) (fun b => SB b ∨ b = W) (fun b => A b ∨ b = C) w0 w' → Bel w w' → w0.heap.size ≤ C → w'.heap[C]? = some (.cells (wears f).toArray 55) →
  Fine Try.prog Post (fun b => SB b ∨ b = W) (G (cc.finish (.slice (some ⟨C, 0, none⟩) 4 4)) rest) w') :
 Fine Try.prog Post SB (G (Frame.enter Try.prog 32 #[.slice ad 4 c] .normal) (cc :: rest)) w := by
 obtain ⟨hs, hf⟩ := hf
 have hne : f ≠ [] := by rintro rfl; simp at h4
 have hpn : ∀ b ∈ f, b.pages ≠ [] := fun b hb e => by have := hp4 b hb; rw [e] at this; simp at this
 have hin := fblk_in co.hin hv hf hne hpn
 obtain ⟨bk, off, rfl⟩ := hf.addr hne
 have hfR : Bks w (some ⟨bk, off, none⟩) f hs := ⟨hf.len, fun hn => let ⟨b, o, e, hc⟩ := hf.row hn; ⟨b, o, e, fun j u hj => ⟨cut_cell (hc j u hj).1, by rw [← cut_frozen (G := good Gd)]; exact (hc j u hj).2⟩⟩,
  fun i b x hb hx => ⟨fun hn => let ⟨b', o, e, hc⟩ := (hf.pg i b x hb hx).1 hn; ⟨b', o, e, fun j u hj => ⟨cut_cell (hc j u hj).1, by rw [← cut_frozen (G := good Gd)]; exact (hc j u hj).2⟩⟩, (hf.pg i b x hb hx).2⟩⟩
 refine Fine.wearEach hfR h4 hp4 (fun b hb => co.shun hb) (fun b hb h => (co.away b h).1 (hin b hb)) fun w' h1 h2 h3 h5 h6 => ?_
 have hb : Bel w w' := ⟨h5, h6, by omega, h2⟩
 have co' := co.keep hb
 have hdC : (cutW (good Gd) w').heap[w.heap.size + 1]? = some (.cells (wears f).toArray 55) := by
  rw [cut_other]
  · exact h3
  · intro c l hi e x
    have := co.dead c l hi e
    omega
 refine next w' (w.heap.size + 1) (w.heap.size + 3) ⟨⟨fun r hr => ?_, co'.hin.there⟩, fun b hb' => ?_, co'.bel⟩ hb (by have := co.bel.size; omega) h3
 · rcases hr with hr | rfl
   · obtain ⟨x, hx, hxin⟩ := co'.hin.obj r hr
     exact ⟨x, hx, hxin.mono fun _ z => .inl z⟩
   · refine ⟨_, hdC, .all fun v hv => ?_⟩
     simp only [wears, List.mem_toArray, List.mem_flatMap, List.mem_cons, List.not_mem_nil, or_false] at hv
     obtain ⟨b, _, rfl | rfl⟩ := hv <;> exact .int _ _
 · rw [cut_size]
   rcases hb' with hb' | rfl
   · have := co'.away b hb'
     have h9 := co.shun hb'
     rw [cut_size] at this
     exact ⟨fun x => x.elim this.1 (fun e => by omega), this.2⟩
   · exact ⟨fun x => x.elim (fun x => by have := co.lt x; omega) (fun e => by omega), by omega⟩
end
end Go.Proofs.Ytclnogfmmekooaa
namespace Go.Proofs.Ytclnogfmmekooaa
set_option linter.unusedVariables false
set_option linter.unusedSimpArgs false
open Go.RowKit Go.Maps
set_option maxHeartbeats 400000
theorem impl_pageShape (p : Pg) (w : World) : Calls Try.prog 49 #[.agg #[.int .i64 p.state, .int .i64 p.rc.kind, .int .i64 p.rc.seq, .int .i64 p.rc.addr, .int .i64 p.rc.val]] w fun e w' => e = .returned (.bool (pageOk p)) ∧ Below w.heap.size w w' := by
 obtain ⟨st, r⟩ := p
 dsimp only
 have hB : Below w.heap.size w (w.alloc (.cells #[.int .i64 st, .int .i64 r.kind, .int .i64 r.seq, .int .i64 r.addr, .int .i64 r.val] 42)) := (Below.refl _ _).alloc (Nat.le_refl _) _
 by_cases h1 : st = 1
 · subst h1
   have hq : Hid (pageOk ⟨1, r⟩ = recOk r) := rfl
   go_enter Try.func49, Try.ntmps49
   go_wp2_with (go_at_call 41; refine (impl_RecOk r _).mono ?_; rintro e w1 ⟨rfl, hb⟩)
   go_ret
   exact ⟨ret_bool hq.out.symm, hB.trans (hb.mono (by simp))⟩
 clear hB
 obtain ⟨k, s, a, v⟩ := r
 dsimp only
 by_cases h0 : st = 0
 · subst h0
   have hq : Hid (pageOk ⟨0, ⟨k, s, a, v⟩⟩ = decide ((⟨k, s, a, v⟩ : Rc) = rc0)) := rfl
   go_enter Try.func49, Try.ntmps49
   go_wp2
   all_goals (go_ret; exact ⟨ret_bool (by rw [hq.out]; simp [rc0, *]), (Below.refl _ _).alloc (Nat.le_refl _) _⟩)
 by_cases h2 : st = 2
 · subst h2
   have hq : Hid (pageOk ⟨2, ⟨k, s, a, v⟩⟩ = decide ((⟨k, s, a, v⟩ : Rc) = rc0)) := rfl
   go_enter Try.func49, Try.ntmps49
   go_wp2
   all_goals (go_ret; exact ⟨ret_bool (by rw [hq.out]; simp [rc0, *]), (Below.refl _ _).alloc (Nat.le_refl _) _⟩)
 have hk : Hid (pageOk ⟨st, ⟨k, s, a, v⟩⟩ = false) := by unfold Hid pageOk; simp [h1, h2, h0]
 go_enter Try.func49, Try.ntmps49
 go_wp2
 go_ret
 exact ⟨ret_bool hk.out.symm, (Below.refl _ _).alloc (Nat.le_refl _) _⟩

theorem impl_blockShape (b : Bk) (A : Option Addr) (c : Nat) (w : World) (hR : Row w A (pgs b.pages)) : Calls Try.prog 48 #[.agg #[.slice A b.pages.length c, .int .i64 b.worn]] w fun e w' => e = .returned (.bool (blockShape b)) ∧ Below w.heap.size w w' := by
 obtain ⟨ps, worn⟩ := b
 dsimp only at *
 have hB : Below w.heap.size w (w.alloc (.cells #[.slice A ps.length c, .int .i64 worn] 35)) := (Below.refl _ _).alloc (Nat.le_refl _) _
 by_cases hn4 : ps.length = 4
 · obtain ⟨bk, off, rfl⟩ := hR.addr (pgs_ne (by rintro rfl; simp at hn4))
   have HN := Lib.hid hn4
   rw [hn4] at hB ⊢
   clear hn4
   by_cases h0 : worn < 0
   · have hfin : Hid (blockShape ⟨ps, worn⟩ = false) := by unfold Hid blockShape; simp; omega
     go_enter Try.func48, Try.ntmps48
     go_wp2
     go_ret
     exact ⟨ret_bool hfin.out.symm, hB⟩
   by_cases h1 : 200 < worn
   · have hfin : Hid (blockShape ⟨ps, worn⟩ = false) := by unfold Hid blockShape; simp; omega
     go_enter Try.func48, Try.ntmps48
     go_wp2
     go_ret
     exact ⟨ret_bool hfin.out.symm, hB⟩
   have hfin : Hid (blockShape ⟨ps, worn⟩ = shapeGo false ps) := by unfold Hid blockShape; simp [HN.out, show 0 ≤ worn by omega, show worn ≤ 200 by omega]
   go_enter Try.func48, Try.ntmps48
   go_wp2
   go_loopw [3, 23] (fun fr i wr => ∃ (k : Nat) (bb : Bool), k ≤ 4 ∧ i = .int .i64 k ∧ fr = .bool bb ∧ Below w.heap.size w wr ∧ Hid (shapeGo false ps = shapeGo bb (ps.drop k))) (fun _ i _ => 4 - (intOf i).toNat)
   case atStart => exact ⟨0, false, by omega, rfl, rfl, hB, rfl⟩
   case round =>
    obtain ⟨k, bb, hk, rfl, rfl, hb, hg⟩ := hrel
    by_cases hlt : k < 4
    · obtain ⟨p, hp⟩ := get_some (l := ps) (k := k) (by have := HN.out; omega)
      have hd := Lib.hid (drop_cons hp)
      obtain ⟨c0, c1, c2, c3, c4⟩ := (hR.below hb (Nat.le_refl _)).pg hp
      clear hp hB
      obtain ⟨st, rc⟩ := p
      dsimp only at *
      go_wp2
      · go_ret
        exact ⟨ret_bool (by rw [hfin.out, hg.out, hd.out]; simp [shapeGo, *]), hb.alloc hb.size _⟩
      all_goals
       go_roundw
       case rel => exact ⟨k + 1, _, by omega, by go_num, rfl, hb.alloc hb.size _, by rw [Hid, hg.out, hd.out]; simp [shapeGo, *]⟩
       case measure => simp [intOf]; omega
    · go_wp2
      go_ret
      obtain rfl : k = 4 := by omega
      exact ⟨ret_bool (by rw [hfin.out, hg.out, List.drop_of_length_le (by have := HN.out; omega)]; rfl), hb⟩
 · have hfin : Hid (blockShape ⟨ps, worn⟩ = false) := by unfold Hid blockShape; simp; omega
   go_enter Try.func48, Try.ntmps48
   go_wp2
   go_ret
   exact ⟨ret_bool hfin.out.symm, hB⟩

theorem zero_int (w : World) : (zeroValue 3).run Try.prog w = .ok (.int .i64 0) w := by kernel_rfl
/-- how often each number was met -/
def cnt (seen : List Int) (k : Int) : Int := seen.count k
theorem cnt_pos {seen : List Int} {k : Int} : 0 < cnt seen k ↔ k ∈ seen := by unfold cnt; rw [← List.count_pos_iff]; omega
set_option maxHeartbeats 1000000 in
theorem impl_FlashOk (f : List Bk) (A : Option Addr) (c : Nat) (w : World) (hF : Fl w A f) : Calls Try.prog 31 #[.slice A f.length c] w fun e w' => e = .returned (.bool (flashOk f)) ∧ Below w.heap.size w w' := by
 by_cases hn4 : f.length = 4
 · obtain ⟨hs, hF⟩ := hF
   obtain ⟨bk, off, rfl⟩ := hF.addr (by rintro rfl; simp at hn4)
   have hfin : Hid (flashOk f = blocksGo [] f) := by unfold Hid flashOk; simp [hn4]
   have HN := Lib.hid hn4
   rw [hn4]
   clear hn4
   have hmm := @run_makeMap Try.prog
   go_enter Try.func31, Try.ntmps31
   go_wp2
   go_loopw [14] (fun i wr => ∃ (k : Nat) (seen : List Int), k ≤ 4 ∧ i = .int .i64 k ∧ Below w.heap.size w wr ∧ IMap Try.prog 3 3 wr w.heap.size (4 * k) (cnt seen) ∧ (∀ x, cnt seen x ≤ 4 * k) ∧ Hid (flashOk f = blocksGo seen (f.drop k))) (fun i _ => 4 - (intOf i).toNat)
   case atStart => exact ⟨0, [], by omega, rfl, (Below.refl _ _).alloc (Nat.le_refl _) _, (IMap.made _ _ _ _), by simp [cnt], hfin.out⟩
   case round =>
    obtain ⟨k, seen, hk, rfl, hb, hM, hcn, hg⟩ := hrel
    by_cases hlt : k < 4
    · obtain ⟨B, hB⟩ := get_some (l := f) (k := k) (by have := HN.out; omega)
      have hd := Lib.hid (drop_cons hB)
      obtain ⟨⟨Ap, cp⟩, _, c0, c1, _, _, hR, hlc⟩ := hF.at_ hB
      have hbk : bk < w.heap.size := lt_of_cell c0
      replace c0 := (hb.cell (p := ⟨bk, off + k * 2, none⟩) hbk).trans c0
      replace c1 := (hb.cell (p := ⟨bk, off + k * 2 + 1, none⟩) hbk).trans c1
      clear hB hbk
      obtain ⟨Ps, wn⟩ := B
      dsimp only at *
      go_wp2_with fail
      refine (impl_blockShape ⟨Ps, wn⟩ Ap cp _ ((hR.below hb (Nat.le_refl _)).alloc _)).mono ?_
      rintro e w1 ⟨rfl, hb1⟩
      have hx0 : w1.cell? ⟨wr.heap.size, 0, none⟩ = some (.slice Ap Ps.length cp) := (hb1.cell (by simp)).trans (by simp)
      have hB1 : Below w.heap.size w w1 := (hb.alloc hb.size _).trans (hb1.mono (by have := hb.size; simp; omega))
      have hM1 : IMap Try.prog 3 3 w1 w.heap.size (4 * k) (cnt seen) := (hM.alloc _).below hb1 (by have := hM.lt; simp; omega)
      clear hb1 c0 c1 hM hb
      by_cases hbs : blockShape ⟨Ps, wn⟩ = true
      · have hl4 : Ps.length = 4 := by unfold blockShape at hbs; simp at hbs; exact hbs.1
        have hstep : Hid (flashOk f = pagesGo seen (fun s => blocksGo s (f.drop (k + 1))) Ps) := by rw [Hid, hg.out, hd.out, blocksGo, hbs]; rfl
        obtain ⟨pb, po, rfl⟩ := hR.addr (pgs_ne (by rintro rfl; simp at hl4))
        have HL := Lib.hid hl4
        rw [hl4] at hx0
        clear hl4 hlc hg hd
        go_wp2
        go_loopw [24] (fun i wr => ∃ (j : Nat) (seen : List Int), j ≤ 4 ∧ i = .int .i64 j ∧ Below w.heap.size w wr ∧ IMap Try.prog 3 3 wr w.heap.size (4 * k + j) (cnt seen) ∧ (∀ x, cnt seen x ≤ 4 * k + j) ∧ Hid (flashOk f = pagesGo seen (fun s => blocksGo s (f.drop (k + 1))) (Ps.drop j))) (fun i _ => 4 - (intOf i).toNat)
        case atStart => exact ⟨0, seen, by omega, rfl, hB1, hM1, by intro x; have := hcn x; omega, hstep.out⟩
        case round =>
         clear hM1 hcn seen hB1 hx0 hstep
         obtain ⟨j, seen, hj, rfl, hb, hM, hcn, hg⟩ := hrel
         by_cases hltj : j < 4
         · obtain ⟨p, hp⟩ := get_some (l := Ps) (k := j) (by have := HL.out; omega)
           have hd := Lib.hid (drop_cons hp)
           obtain ⟨c0, c1, c2, c3, c4⟩ := (hR.below hb (Nat.le_refl _)).pg hp
           clear hp
           obtain ⟨st, ⟨kd, sq, ad, vl⟩⟩ := p
           dsimp only at *
           go_wp2_with fail
           refine (impl_pageShape ⟨st, ⟨kd, sq, ad, vl⟩⟩ _).mono ?_
           rintro e w2 ⟨rfl, hb2⟩
           have hB2 : Below w.heap.size w w2 := (hb.alloc hb.size _).trans (hb2.mono (by have := hb.size; simp; omega))
           have hM2 : IMap Try.prog 3 3 w2 w.heap.size (4 * k + j) (cnt seen) := (hM.alloc _).below hb2 (by have := hM.lt; simp; omega)
           have x0 : w2.cell? ⟨wr.heap.size, 0, none⟩ = some (.int .i64 st) := (hb2.cell (by simp)).trans (by simp)
           have x2 : w2.cell? ⟨wr.heap.size, 2, none⟩ = some (.int .i64 sq) := (hb2.cell (by simp)).trans (by simp)
           clear hb2 hM hb c0 c1 c2 c3 c4
           by_cases hpo : pageOk ⟨st, ⟨kd, sq, ad, vl⟩⟩ = true
           · by_cases hst : st = 1
             · subst hst
               have hsq : 1 ≤ sq ∧ sq ≤ 600 := by unfold pageOk recOk at hpo; simp at hpo; exact ⟨hpo.2.1, hpo.2.2.1⟩
               obtain ⟨hs1, hs2⟩ := hsq
               have hwf : (Lit.int .i64 sq).wf = true := WalkArith.wf_i64 (by omega)
               have hlook := hM2.look Try.underlying77 Try.underlying3 Try.underlying3 zero_int hwf
               have hcs := hcn sq
               by_cases hin : sq ∈ seen
               · have hpos : 0 < cnt seen sq := cnt_pos.2 hin
                 have hstep : Hid (flashOk f = false) := by rw [Hid, hg.out, hd.out, pagesGo, hpo, if_neg (by simp), if_neg (by simp), if_pos hin]
                 clear hcn hg hd
                 go_wp2
                 go_ret
                 exact ⟨ret_bool hstep.out.symm, hB2⟩
               · have hz : cnt seen sq = 0 := by have := mt cnt_pos.1 hin; have : 0 ≤ cnt seen sq := by unfold cnt; omega
                                                 omega
                 rw [hz] at hlook
                 have hstep : Hid (flashOk f = pagesGo (sq :: seen) (fun s => blocksGo s (f.drop (k + 1))) (Ps.drop (j + 1))) := by rw [Hid, hg.out, hd.out, pagesGo, hpo, if_neg (by simp), if_neg (by simp), if_neg hin]
                 obtain ⟨w3, hput, hM3, hg3⟩ := hM2.put (k := sq) (v := 1) Try.underlying77 Try.underlying3 Try.underlying3 (by unfold maxLen; omega) hwf (by decide)
                 have hB3 : Below w.heap.size w w3 := hB2.grown hg3 hB2.size (by intro g e; cases e; omega)
                 have hM4 : IMap Try.prog 3 3 w3 w.heap.size (4 * k + (j + 1)) (cnt (sq :: seen)) := by
                  have e : (fun x => if x = sq then (1 : Int) else cnt seen x) = cnt (sq :: seen) := by
                   funext x
                   unfold cnt at hz ⊢
                   rw [List.count_cons]
                   by_cases hx : x = sq
                   · subst hx; simp; omega
                   · rw [if_neg hx, if_neg (by simpa using fun h => hx h.symm)]; simp
                  rw [← e]; exact hM3
                 have hcn' : ∀ x, cnt (sq :: seen) x ≤ 4 * k + (j + 1) := by
                  intro x; have := hcn x; unfold cnt at *; rw [List.count_cons]; split <;> omega
                 have HC := Lib.hid hcn'
                 clear hcn hcn' hg hd hM3 hg3 hM2 hB2 hz hin
                 go_wp2
                 go_roundw
                 case rel => exact ⟨j + 1, _, by omega, by go_num, hB3, hM4, HC.out, hstep⟩
                 case measure => simp [intOf]; omega
             · have hstep : Hid (flashOk f = pagesGo seen (fun s => blocksGo s (f.drop (k + 1))) (Ps.drop (j + 1))) := by rw [Hid, hg.out, hd.out, pagesGo, hpo, if_neg (by simp), if_pos (by simpa using hst)]
               have HC := Lib.hid hcn
               clear hg hd hcn
               go_wp2
               go_roundw
               case rel => exact ⟨j + 1, seen, by omega, by go_num, hB2, hM2.mono (by omega), by intro x; have := HC.out x; omega, hstep⟩
               case measure => simp [intOf]; omega
           · go_wp2
             go_ret
             exact ⟨ret_bool (by rw [hg.out, hd.out, pagesGo, if_pos (by simpa using hpo)]), hB2⟩
         · obtain rfl : j = 4 := by omega
           have hstep : Hid (flashOk f = blocksGo seen (f.drop (k + 1))) := by rw [Hid, hg.out, show Ps.drop 4 = [] from List.drop_of_length_le (by have := HL.out; omega)]; rfl
           have HC := Lib.hid hcn
           clear hcn hg
           go_wp2
           go_roundw
           case rel => exact ⟨k + 1, seen, by omega, by go_num, hb, hM.mono (by omega), by intro x; have := HC.out x; omega, hstep⟩
           case measure => simp [intOf]; omega
      · go_wp2
        go_ret
        exact ⟨ret_bool (by rw [hg.out, hd.out, blocksGo, if_pos (by simpa using hbs)]), hB1⟩
    · go_wp2
      go_ret
      obtain rfl : k = 4 := by omega
      exact ⟨ret_bool (by rw [hg.out, List.drop_of_length_le (by have := HN.out; omega)]; rfl), hb⟩
 · have hfin : Hid (flashOk f = false) := by unfold Hid flashOk; simp; omega
   go_enter Try.func31, Try.ntmps31
   go_wp2
   go_ret
   exact ⟨ret_bool hfin.out.symm, Below.refl _ _⟩
end Go.Proofs.Ytclnogfmmekooaa
namespace Go.Proofs.Ytclnogfmmekooaa
set_option linter.unusedVariables false
set_option linter.unusedSimpArgs false
open Go.Conc Go.ConcN Go.ConcR.Gen Go.RowKit
set_option maxRecDepth 100000
set_option maxHeartbeats 4000000
/-- The least worn, the most worn; the wear, and the torn pages, together. -/
def wLo (f : List Bk) : Int := f.foldl (fun a b => if b.worn < a then b.worn else a) 200
def wHi (f : List Bk) : Int := f.foldl (fun a b => if a < b.worn then b.worn else a) 0
def wTorn (f : List Bk) : Int := f.foldl (fun a b => a + (tornN b.pages : Int)) 0
theorem flash_four {f : List Bk} (h : flashOk f = true) : f.length = 4 ∧ ∀ b ∈ f, b.pages.length = 4 ∧ 0 ≤ b.worn ∧ b.worn ≤ 200 := ⟨flashOk_len h, flashOk_shape h⟩
theorem tornN_le (ps : List Pg) : tornN ps ≤ ps.length := List.countP_le_length
theorem ev_min2 (P : Program) (w : World) (es : Array Event) (ts : Array TypeId) (t : TypeId) (k k' : IntKind) (x y : Int) : (Builtin.min_ ts t #[.int k x, .int k' y]).events P w es = es := by simp [Builtin.min_, Builtin.min2]
theorem ev_max2 (P : Program) (w : World) (es : Array Event) (ts : Array TypeId) (t : TypeId) (k k' : IntKind) (x y : Int) : (Builtin.max_ ts t #[.int k x, .int k' y]).events P w es = es := by simp [Builtin.max_, Builtin.max2]
section
variable {f : List Bk} {k : Nat}
theorem fold_lo : ∀ (l : List Bk) (a : Int), 0 ≤ a → (∀ b ∈ l, 0 ≤ b.worn) → 0 ≤ l.foldl (fun a b => if b.worn < a then b.worn else a) a ∧ l.foldl (fun a b => if b.worn < a then b.worn else a) a ≤ a
 | [], a, h, _ => ⟨h, Int.le_refl _⟩
 | b :: l, a, h, hb => by
   rw [List.foldl_cons]
   have h0 := hb b (by simp)
   split
   · have := fold_lo l b.worn h0 (fun x hx => hb x (by simp [hx])); omega
   · exact fold_lo l a h (fun x hx => hb x (by simp [hx]))
theorem fold_hi : ∀ (l : List Bk) (a : Int), 0 ≤ a → a ≤ 200 → (∀ b ∈ l, b.worn ≤ 200) → 0 ≤ l.foldl (fun a b => if a < b.worn then b.worn else a) a ∧ l.foldl (fun a b => if a < b.worn then b.worn else a) a ≤ 200
 | [], a, h, h2, _ => ⟨h, h2⟩
 | b :: l, a, h, h2, hb => by
   rw [List.foldl_cons]
   have h0 := hb b (by simp)
   split
   · exact fold_hi l b.worn (by omega) h0 (fun x hx => hb x (by simp [hx]))
   · exact fold_hi l a h h2 (fun x hx => hb x (by simp [hx]))
theorem fold_sum (g : Bk → Int) (m : Int) : ∀ (l : List Bk) (a : Int), (∀ b ∈ l, 0 ≤ g b ∧ g b ≤ m) → a ≤ l.foldl (fun a b => a + g b) a ∧ l.foldl (fun a b => a + g b) a ≤ a + m * l.length
 | [], a, _ => by simp
 | b :: l, a, hb => by
   rw [List.foldl_cons]
   have h0 := hb b (by simp)
   have := fold_sum g m l (a + g b) (fun x hx => hb x (by simp [hx]))
   simp only [List.length_cons]
   have e : m * ((l.length + 1 : Nat) : Int) = m * (l.length : Int) + m := by rw [Int.natCast_add, Int.mul_add]; simp
   rw [e]
   omega
theorem wLo_ge (h : flashOk f = true) : 0 ≤ wLo f ∧ wLo f ≤ 200 := fold_lo f 200 (by omega) fun b hb => ((flash_four h).2 b hb).2.1
theorem wHi_le (h : flashOk f = true) : 0 ≤ wHi f ∧ wHi f ≤ 200 := fold_hi f 0 (by omega) (by omega) fun b hb => ((flash_four h).2 b hb).2.2
theorem take_len (h : flashOk f = true) : (f.take k).length ≤ 4 := by rw [List.length_take, (flash_four h).1]; omega
theorem wTorn_small (h : flashOk f = true) : 0 ≤ wTorn (f.take k) ∧ wTorn (f.take k) ≤ 16 := by
 have := fold_sum (fun b => (tornN b.pages : Int)) 4 (f.take k) 0 fun b hb => by
  have h1 := tornN_le b.pages
  have h2 := ((flash_four h).2 b (List.mem_of_mem_take hb)).1
  omega
 have := take_len (k := k) h
 unfold wTorn
 omega
end
/-- What is held in the loops: what was found lies in block C. -/
structure Wk (Gd : Option (Nat × Nat × Nat)) (SB A : Nat → Prop) (w0 w1 : World) (C : Nat) (f : List Bk) (w : World) : Prop where
 co : Co (good Gd) SB A w0 w
 bel : Bel w1 w
 cells : w.heap[C]? = some (.cells (wears f).toArray 55)
 inA : A C
section
variable {Gd : Option (Nat × Nat × Nat)} {SB A : Nat → Prop} {w0 w1 w : World} {C : Nat} {f : List Bk} {Post : Value → World → Prop} {cc : Frame} {rest : List Frame} {V : Nat} {cs : Array Value}
theorem Wk.tp (w : World) (T : Nat → Question → Nat) (d : Nat) (h : Wk Gd SB A w0 w1 C f w) : Wk Gd SB A w0 w1 C f (tp w T d) := ⟨h.co.tp T d, ⟨h.bel.os, h.bel.output, h.bel.size, h.bel.block⟩, h.cells, h.inA⟩
theorem Wk.nsb (h : Wk Gd SB A w0 w1 C f w) : ¬ SB C := fun x => (h.co.away C x).1 h.inA
theorem Wk.lt (h : Wk Gd SB A w0 w1 C f w) : C < w.heap.size := h.co.lt h.inA
theorem Wk.cell (h : Wk Gd SB A w0 w1 C f w) {k : Nat} {b : Bk} (hb : f[k]? = some b) : w.cell? ⟨C, k * 2, none⟩ = some (.int .i64 b.worn) ∧ w.cell? ⟨C, k * 2 + 1, none⟩ = some (.int .i64 (tornN b.pages : Int)) := by
 have g := fun j hj => flat_get (fun b : Bk => [Value.int .i64 b.worn, .int .i64 (tornN b.pages : Int)]) 2 (fun _ => rfl) f k j b hb hj
 have g0 := g 0 (by omega)
 have g1 := g 1 (by omega)
 constructor
 · simp only [World.cell?, h.cells, wears]; simpa using g0
 · simp only [World.cell?, h.cells, wears]; simpa using g1
theorem Wk.push (h : Wk Gd SB A w0 w1 C f w) (o : Obj) : Wk Gd SB A w0 w1 C f { w with heap := w.heap.push o } :=
 ⟨h.co.push o, h.bel.trans ⟨rfl, rfl, by simp, fun b hb => getElem?_push_old _ _ hb⟩, (getElem?_push_old _ _ h.lt).trans h.cells, h.inA⟩
/-- .. and the round's variable in block V. -/
structure Nw (Gd : Option (Nat × Nat × Nat)) (SB A : Nat → Prop) (w0 w1 : World) (C : Nat) (f : List Bk) (V : Nat) (cs : Array Value) (w : World) : Prop where
 wk : Wk Gd SB A w0 w1 C f w
 var : w.heap[V]? = some (.cells cs 55)
 lt : V < w.heap.size
 non : ¬ A V
 ge0 : w0.heap.size ≤ V
 ge1 : w1.heap.size ≤ V
 nsb : ¬ SB V
theorem Nw.tp (w : World) (T : Nat → Question → Nat) (d : Nat) (h : Nw Gd SB A w0 w1 C f V cs w) : Nw Gd SB A w0 w1 C f V cs (tp w T d) := ⟨h.wk.tp _ T d, h.var, h.lt, h.non, h.ge0, h.ge1, h.nsb⟩
theorem Nw.cell (h : Nw Gd SB A w0 w1 C f V cs w) (j : Nat) : w.cell? ⟨V, j, none⟩ = cs[j]? := by simp [World.cell?, h.var]
theorem Nw.thaw (h : Nw Gd SB A w0 w1 C f V cs w) (j : Nat) : w.frozen? ⟨V, j, none⟩ = false := by simp [World.frozen?, h.var]
theorem Nw.set (h : Nw Gd SB A w0 w1 C f V cs w) (j : Nat) (v : Value) : Nw Gd SB A w0 w1 C f V (cs.setIfInBounds j v) (w.setCell ⟨V, j, none⟩ v) := by
 have hs : (w.setCell ⟨V, j, none⟩ v).heap.size = w.heap.size := by simp [World.setCell]
 have hC : C ≠ V := fun e => h.non (e ▸ h.wk.inA)
 exact ⟨⟨h.wk.co.setCell j v h.non h.ge0, h.wk.bel.more hs rfl rfl fun b hb => Below.heap_setCell _ ⟨V, j, none⟩ v b (by have := h.ge1; show b ≠ V; omega), (Below.heap_setCell _ ⟨V, j, none⟩ v C hC).trans h.wk.cells, h.wk.inA⟩, heap_set_same h.var, by rw [hs]; exact h.lt, h.non, h.ge0, h.ge1, h.nsb⟩
theorem arrw29 (T : Array Value) (h : T.size = 29) : ∃ v0 v1 v2 v3 v4 v5 v6 v7 v8 v9 v10 v11 v12 v13 v14 v15 v16 v17 v18 v19 v20 v21 v22 v23 v24 v25 v26 v27 v28, T = #[v0, v1, v2, v3, v4, v5, v6, v7, v8, v9, v10, v11, v12, v13, v14, v15, v16, v17, v18, v19, v20, v21, v22, v23, v24, v25, v26, v27, v28] := by
 obtain ⟨l⟩ := T
 simp only [List.size_toArray] at h
 rcases l with _ | ⟨v0, l⟩
 · simp at h
 rcases l with _ | ⟨v1, l⟩
 · simp at h
 rcases l with _ | ⟨v2, l⟩
 · simp at h
 rcases l with _ | ⟨v3, l⟩
 · simp at h
 rcases l with _ | ⟨v4, l⟩
 · simp at h
 rcases l with _ | ⟨v5, l⟩
 · simp at h
 rcases l with _ | ⟨v6, l⟩
 · simp at h
 rcases l with _ | ⟨v7, l⟩
 · simp at h
 rcases l with _ | ⟨v8, l⟩
 · simp at h
 rcases l with _ | ⟨v9, l⟩
 · simp at h
 rcases l with _ | ⟨v10, l⟩
 · simp at h
 rcases l with _ | ⟨v11, l⟩
 · simp at h
 rcases l with _ | ⟨v12, l⟩
 · simp at h
 rcases l with _ | ⟨v13, l⟩
 · simp at h
 rcases l with _ | ⟨v14, l⟩
 · simp at h
 rcases l with _ | ⟨v15, l⟩
 · simp at h
 rcases l with _ | ⟨v16, l⟩
 · simp at h
 rcases l with _ | ⟨v17, l⟩
 · simp at h
 rcases l with _ | ⟨v18, l⟩
 · simp at h
 rcases l with _ | ⟨v19, l⟩
 · simp at h
 rcases l with _ | ⟨v20, l⟩
 · simp at h
 rcases l with _ | ⟨v21, l⟩
 · simp at h
 rcases l with _ | ⟨v22, l⟩
 · simp at h
 rcases l with _ | ⟨v23, l⟩
 · simp at h
 rcases l with _ | ⟨v24, l⟩
 · simp at h
 rcases l with _ | ⟨v25, l⟩
 · simp at h
 rcases l with _ | ⟨v26, l⟩
 · simp at h
 rcases l with _ | ⟨v27, l⟩
 · simp at h
 rcases l with _ | ⟨v28, l⟩
 · simp at h
 obtain rfl : l = [] := List.eq_nil_of_length_eq_zero (by simpa using h)
 exact ⟨_, _, _, _, _, _, _, _, _, _, _, _, _, _, _, _, _, _, _, _, _, _, _, _, _, _, _, _, _, rfl⟩
noncomputable def wSpreadB : Code := match Try.f14.body with | some (.seq _ (.seq _ (.seq _ (.seq (.seq _ (.block _ (.loop c))) _)))) => c | _ => .skip
noncomputable def wSpreadT : Code := match Try.f14.body with | some (.seq _ (.seq _ (.seq _ (.seq _ c)))) => c | _ => .skip
/-- Its loop, and what follows it. -/
theorem wSpreadLoop (hok : flashOk f = true) (next : ∀ w, Wk Gd SB A w0 w1 C f w → Fine Try.prog Post SB (G (cc.finish (.int .i64 (wHi f - wLo f))) rest) w) :
 ∀ (m k : Nat) (T : Array Value) (w : World), k + m = 4 → T.size = 29 → T[3]? = some (.int .i64 (wLo (f.take k))) → T[4]? = some (.int .i64 (wHi (f.take k))) → T[11]? = some (.slice (some ⟨C, 0, none⟩) 4 4) → T[12]? = some (.int .i64 4) → T[13]? = some (.int .i64 (k : Int)) → Wk Gd SB A w0 w1 C f w → Fine Try.prog Post SB (G ((base 14).at ⟨T, []⟩ [.code wSpreadB, .inLoop wSpreadB, .inBlock 0, .code wSpreadT]) (cc :: rest)) w := by
 have h4 := (flash_four hok).1
 intro m
 induction m with
 | zero =>
   intro k T w hk hT t3 t4 to tl tk hW
   obtain rfl : k = 4 := by omega
   rw [List.take_of_length_le (by omega)] at t3 t4
   obtain ⟨v0, v1, v2, v3, v4, v5, v6, v7, v8, v9, v10, v11, v12, v13, v14, v15, v16, v17, v18, v19, v20, v21, v22, v23, v24, v25, v26, v27, v28, rfl⟩ := arrw29 T hT
   simp only [List.getElem?_toArray, List.getElem?_cons_succ, List.getElem?_cons_zero, Option.some.injEq] at t3 t4 to tl tk
   subst t3 t4 to tl tk
   simp only [wSpreadB, wSpreadT, Try.f14]
   refine f_ctl rfl (fun w => stepG_seq) ?_
   refine f_ctl rfl (fun w => stepG_region) ?_
   simp only [List.size_toArray, List.length_cons, List.length_nil, Nat.reduceAdd, Nat.zero_add, List.range, List.range.loop]
   refine f_val (F := fun _ => True) (fun _ _ _ _ => trivial) trivial rfl rfl (by k_ne) (fun w hw => ⟨run_eq_of (fun K hK => by skip; go_simp; exact hK), by skip; rw [listed_nil (by simp [go_sem, ev_min2, ev_max2, *])]; simp⟩) ?_
   walk_nrm
   refine f_ctl rfl (fun w => stepG_region_end) ?_
   refine f_ctl rfl (fun w => stepG_seq) ?_
   refine f_ctl rfl (fun w => stepG_cond (t := false) (by simp [Act.eval])) ?_
   simp only [if_true, Bool.false_eq_true, if_false]
   refine f_ctl rfl (fun w => stepG_exit rfl) ?_
   have hxs : IntKind.i64.wrap (wHi f - wLo f) = wHi f - wLo f := by have := wHi_le hok; have := wLo_ge hok; rw [IntKind.wrap_i64]; omega
   refine f_ctl rfl (fun w => stepG_seq) ?_
   refine f_ctl rfl (fun w => stepG_region) ?_
   simp only [List.size_toArray, List.length_cons, List.length_nil, Nat.reduceAdd, Nat.zero_add, List.range, List.range.loop]
   refine f_val (F := fun _ => True) (fun _ _ _ _ => trivial) trivial rfl rfl (by k_ne) (fun w hw => ⟨run_eq_of (fun K hK => by skip; go_simp; exact hK), by skip; rw [listed_nil (by simp [go_sem, ev_min2, ev_max2, *])]; simp⟩) ?_
   walk_nrm
   refine f_val (F := fun _ => True) (fun _ _ _ _ => trivial) trivial rfl rfl (by k_ne) (fun w hw => ⟨run_eq_of (fun K hK => by skip; go_simp; exact hK), by skip; rw [listed_nil (by simp [go_sem, ev_min2, ev_max2, *])]; simp⟩) ?_
   walk_nrm
   refine f_val (F := fun _ => True) (fun _ _ _ _ => trivial) trivial rfl rfl (by k_ne) (fun w hw => ⟨run_eq_of (fun K hK => by have hx := hxs; go_simp; exact hK), by have hx := hxs; rw [listed_nil (by simp [go_sem, ev_min2, ev_max2, *])]; simp⟩) ?_
   walk_nrm
   refine f_val (F := fun _ => True) (fun _ _ _ _ => trivial) trivial rfl rfl (by k_ne) (fun w hw => ⟨run_eq_of (fun K hK => by skip; go_simp; exact hK), by skip; rw [listed_nil (by simp [go_sem, ev_min2, ev_max2, *])]; simp⟩) ?_
   walk_nrm
   refine f_ctl rfl (fun w => stepG_region_end) ?_
   refine f_ctl rfl (fun w => stepG_ret') ?_
   refine f_leave rfl rfl Try.func14 (fun w => ⟨?_, ?_⟩) (next w hW)
   · simp [results, Try.f14, go_sem]
   · rw [show (results Try.f14 _).events Try.prog w #[] = #[] by simp [results, Try.f14, go_sem]]
     rfl
 | succ m ih =>
   intro k T w hk hT t3 t4 to tl tk hW
   obtain ⟨b, hb⟩ := get_some (l := f) (k := k) (by omega)
   have hbf := (flash_four hok).2 b (List.mem_of_getElem? hb)
   have hbl := hbf.1
   replace hbf := hbf.2
   have hW0 := hW
   have hk1 : IntKind.i64.wrap ((k : Int) + 1) = ((k + 1 : Nat) : Int) := by rw [IntKind.wrap_i64]; omega
   have hx3 := trivial
   have hx4 := trivial
   obtain ⟨v0, v1, v2, v3, v4, v5, v6, v7, v8, v9, v10, v11, v12, v13, v14, v15, v16, v17, v18, v19, v20, v21, v22, v23, v24, v25, v26, v27, v28, rfl⟩ := arrw29 T hT
   simp only [List.getElem?_toArray, List.getElem?_cons_succ, List.getElem?_cons_zero, Option.some.injEq] at t3 t4 to tl tk
   subst t3 t4 to tl tk
   simp only [wSpreadB, wSpreadT, Try.f14]
   refine f_ctl rfl (fun w => stepG_seq) ?_
   refine f_ctl rfl (fun w => stepG_region) ?_
   simp only [List.size_toArray, List.length_cons, List.length_nil, Nat.reduceAdd, Nat.zero_add, List.range, List.range.loop]
   refine f_val (F := fun _ => True) (fun _ _ _ _ => trivial) trivial rfl rfl (by k_ne) (fun w hw => ⟨run_eq_of (fun K hK => by have hlt : (k : Int) < (4 : Int) := (by omega); go_simp; exact hK), by have hlt : (k : Int) < (4 : Int) := (by omega); rw [listed_nil (by simp [go_sem, ev_min2, ev_max2, *])]; simp⟩) ?_
   walk_nrm
   refine f_ctl rfl (fun w => stepG_region_end) ?_
   refine f_ctl rfl (fun w => stepG_seq) ?_
   refine f_ctl rfl (fun w => stepG_cond (t := true) (by have hlt : decide ((k : Int) < (4 : Int)) = true := decide_eq_true (by omega); simp [Act.eval, hlt])) ?_
   simp only [if_true, Bool.false_eq_true, if_false]
   refine f_ctl rfl (fun w => stepG_skip) ?_
   refine f_ctl rfl (fun w => stepG_seq) ?_
   refine f_ctl rfl (fun w => stepG_block) ?_
   refine f_ctl rfl (fun w => stepG_seq) ?_
   refine f_ctl rfl (fun w => stepG_region) ?_
   simp only [List.size_toArray, List.length_cons, List.length_nil, Nat.reduceAdd, Nat.zero_add, List.range, List.range.loop]
   refine f_val (F := fun _ => True) (fun _ _ _ _ => trivial) trivial rfl rfl (by k_ne) (fun w hw => ⟨run_eq_of (fun K hK => by have hlt : (k : Int) < (4 : Int) := (by omega); go_simp; exact hK), by have hlt : (k : Int) < (4 : Int) := (by omega); rw [listed_nil (by simp [go_sem, ev_min2, ev_max2, *])]; simp⟩) ?_
   walk_nrm
   refine f_val (F := Wk Gd SB A w0 w1 C f) Wk.tp hW rfl rfl (by k_ne) (v := .agg #[.int .i64 b.worn, .int .i64 (tornN b.pages : Int)]) (fun w hw => ⟨run_eq_of (fun K hK => by have h0 := (hw.cell hb).1; have h1 := (hw.cell hb).2; go_simp; exact hK), by have h0 := (hw.cell hb).1; have h1 := (hw.cell hb).2; intro e he; have hm := mem_listed he; simp [go_sem, *] at hm; rcases hm with rfl | rfl <;> exact ⟨hw.nsb, hw.lt⟩⟩) ?_
   walk_nrm
   refine f_new (F := Wk Gd SB A w0 w1 C f) Wk.tp hW rfl rfl (by k_ne) (fun b => .pointer (some ⟨b, 0, none⟩)) (.cells #[.int .i64 0, .int .i64 0] 55) (fun w hw => ⟨by go_simp, listed_nil (by simp [go_sem, *])⟩) (fun w hW => ?_)
   walk_nrm
   have hWb := hW
   replace hW := hW.push (.cells #[.int .i64 0, .int .i64 0] 55)
   generalize hwx : ({ w with heap := w.heap.push (.cells #[.int .i64 0, .int .i64 0] 55) } : World) = wx at hW
   obtain ⟨V, hV⟩ : ∃ V, w.heap.size = V := ⟨_, rfl⟩
   rw [hV]
   have hN : Nw Gd SB A w0 w1 C f V #[.int .i64 0, .int .i64 0] wx := by
    have hvt : V < wx.heap.size := by rw [← hwx, ← hV]; simp
    refine ⟨hW, by rw [← hwx, ← hV]; simp, hvt, ?_, ?_, ?_, ?_⟩
    · intro h; have := hWb.co.lt h; omega
    · rw [← hV]; exact hWb.co.bel.size
    · rw [← hV]; exact hWb.bel.size
    · intro h; have := hWb.co.shun h; omega
   clear hwx
   refine f_set (F := Nw Gd SB A w0 w1 C f V #[.int .i64 0, .int .i64 0]) (F' := Nw Gd SB A w0 w1 C f V #[.int .i64 b.worn, .int .i64 (tornN b.pages : Int)]) Nw.tp hN rfl rfl (by k_ne) (fun w => (w.setCell ⟨V, 0, none⟩ (.int .i64 b.worn)).setCell ⟨V, 1, none⟩ (.int .i64 (tornN b.pages : Int))) (fun w hw => ⟨by have h0 := hw.cell 0; have h1 := hw.cell 1; have z0 := hw.thaw 0; have z1 := hw.thaw 1; simp only [List.getElem?_toArray, List.getElem?_cons_succ, List.getElem?_cons_zero] at h0 h1; go_simp, by simp [World.setCell], by have h0 := hw.cell 0; have h1 := hw.cell 1; have z0 := hw.thaw 0; have z1 := hw.thaw 1; simp only [List.getElem?_toArray, List.getElem?_cons_succ, List.getElem?_cons_zero] at h0 h1; intro e he; have hm := mem_listed he; simp [go_sem, *] at hm; rcases hm with rfl | rfl <;> exact ⟨hw.nsb, hw.lt⟩, by simpa using (hw.set 0 (.int .i64 b.worn)).set 1 (.int .i64 (tornN b.pages : Int))⟩) (fun w hN => ?_)
   walk_nrm
   refine f_ctl rfl (fun w => stepG_region_end) ?_
   refine f_ctl rfl (fun w => stepG_seq) ?_
   refine f_ctl rfl (fun w => stepG_region) ?_
   simp only [List.size_toArray, List.length_cons, List.length_nil, Nat.reduceAdd, Nat.zero_add, List.range, List.range.loop]
   refine f_val (F := fun _ => True) (fun _ _ _ _ => trivial) trivial rfl rfl (by k_ne) (fun w hw => ⟨run_eq_of (fun K hK => by skip; go_simp; exact hK), by skip; rw [listed_nil (by simp [go_sem, ev_min2, ev_max2, *])]; simp⟩) ?_
   walk_nrm
   refine f_val (F := fun _ => True) (fun _ _ _ _ => trivial) trivial rfl rfl (by k_ne) (fun w hw => ⟨run_eq_of (fun K hK => by skip; go_simp; exact hK), by skip; rw [listed_nil (by simp [go_sem, ev_min2, ev_max2, *])]; simp⟩) ?_
   walk_nrm
   refine f_val (F := Nw Gd SB A w0 w1 C f V #[.int .i64 b.worn, .int .i64 (tornN b.pages : Int)]) Nw.tp hN rfl rfl (by k_ne) (v := .int .i64 (b.worn)) (fun w hw => ⟨run_eq_of (fun K hK => by have h0 := hw.cell 0; simp only [List.getElem?_toArray, List.getElem?_cons_succ, List.getElem?_cons_zero] at h0; go_simp; exact hK), by have h0 := hw.cell 0; simp only [List.getElem?_toArray, List.getElem?_cons_succ, List.getElem?_cons_zero] at h0; intro e he; have hm := mem_listed he; simp [go_sem, *] at hm; subst hm; exact ⟨hw.nsb, hw.lt⟩⟩) ?_
   walk_nrm
   refine f_val (F := fun _ => True) (fun _ _ _ _ => trivial) trivial rfl rfl (by k_ne) (fun w hw => ⟨run_eq_of (fun K hK => by have hx := hx3; go_simp; exact hK), by have hx := hx3; rw [listed_nil (by simp [go_sem, ev_min2, ev_max2, *])]; simp⟩) ?_
   walk_nrm
   refine f_val (F := fun _ => True) (fun _ _ _ _ => trivial) trivial rfl rfl (by k_ne) (fun w hw => ⟨run_eq_of (fun K hK => by skip; go_simp; exact hK), by skip; rw [listed_nil (by simp [go_sem, ev_min2, ev_max2, *])]; simp⟩) ?_
   walk_nrm
   refine f_ctl rfl (fun w => stepG_region_end) ?_
   refine f_ctl rfl (fun w => stepG_region) ?_
   simp only [List.size_toArray, List.length_cons, List.length_nil, Nat.reduceAdd, Nat.zero_add, List.range, List.range.loop]
   refine f_val (F := fun _ => True) (fun _ _ _ _ => trivial) trivial rfl rfl (by k_ne) (fun w hw => ⟨run_eq_of (fun K hK => by skip; go_simp; exact hK), by skip; rw [listed_nil (by simp [go_sem, ev_min2, ev_max2, *])]; simp⟩) ?_
   walk_nrm
   refine f_val (F := fun _ => True) (fun _ _ _ _ => trivial) trivial rfl rfl (by k_ne) (fun w hw => ⟨run_eq_of (fun K hK => by skip; go_simp; exact hK), by skip; rw [listed_nil (by simp [go_sem, ev_min2, ev_max2, *])]; simp⟩) ?_
   walk_nrm
   refine f_val (F := Nw Gd SB A w0 w1 C f V #[.int .i64 b.worn, .int .i64 (tornN b.pages : Int)]) Nw.tp hN rfl rfl (by k_ne) (v := .int .i64 (b.worn)) (fun w hw => ⟨run_eq_of (fun K hK => by have h0 := hw.cell 0; simp only [List.getElem?_toArray, List.getElem?_cons_succ, List.getElem?_cons_zero] at h0; go_simp; exact hK), by have h0 := hw.cell 0; simp only [List.getElem?_toArray, List.getElem?_cons_succ, List.getElem?_cons_zero] at h0; intro e he; have hm := mem_listed he; simp [go_sem, *] at hm; subst hm; exact ⟨hw.nsb, hw.lt⟩⟩) ?_
   walk_nrm
   refine f_val (F := fun _ => True) (fun _ _ _ _ => trivial) trivial rfl rfl (by k_ne) (fun w hw => ⟨run_eq_of (fun K hK => by have hx := hx4; go_simp; exact hK), by have hx := hx4; rw [listed_nil (by simp [go_sem, ev_min2, ev_max2, *])]; simp⟩) ?_
   walk_nrm
   refine f_val (F := fun _ => True) (fun _ _ _ _ => trivial) trivial rfl rfl (by k_ne) (fun w hw => ⟨run_eq_of (fun K hK => by skip; go_simp; exact hK), by skip; rw [listed_nil (by simp [go_sem, ev_min2, ev_max2, *])]; simp⟩) ?_
   walk_nrm
   refine f_ctl rfl (fun w => stepG_region_end) ?_
   refine f_ctl rfl (fun w => stepG_inBlock) ?_
   refine f_ctl rfl (fun w => stepG_region) ?_
   simp only [List.size_toArray, List.length_cons, List.length_nil, Nat.reduceAdd, Nat.zero_add, List.range, List.range.loop]
   refine f_val (F := fun _ => True) (fun _ _ _ _ => trivial) trivial rfl rfl (by k_ne) (fun w hw => ⟨run_eq_of (fun K hK => by have hk1 := hk1; go_simp; exact hK), by have hk1 := hk1; rw [listed_nil (by simp [go_sem, ev_min2, ev_max2, *])]; simp⟩) ?_
   walk_nrm
   refine f_val (F := fun _ => True) (fun _ _ _ _ => trivial) trivial rfl rfl (by k_ne) (fun w hw => ⟨run_eq_of (fun K hK => by skip; go_simp; exact hK), by skip; rw [listed_nil (by simp [go_sem, ev_min2, ev_max2, *])]; simp⟩) ?_
   walk_nrm
   refine f_ctl rfl (fun w => stepG_region_end) ?_
   refine f_ctl rfl (fun w => stepG_inLoop) ?_
   have htk : f.take (k + 1) = f.take k ++ [b] := by rw [List.take_add_one, hb]; rfl
   skip
   have e3 : (if b.worn < wLo (f.take k) then b.worn else wLo (f.take k)) = wLo (f.take (k + 1)) := by rw [htk]; unfold wLo; rw [List.foldl_append]; rfl
   have e4 : (if wHi (f.take k) < b.worn then b.worn else wHi (f.take k)) = wHi (f.take (k + 1)) := by rw [htk]; unfold wHi; rw [List.foldl_append]; rfl
   have ih2 := fun T => ih (k + 1) T w (by omega)
   simp only [wSpreadB, wSpreadT, Try.f14] at ih2
   refine ih2 _ rfl ?_ ?_ rfl rfl ?_ hN.wk
   all_goals first | (show some (Value.int .i64 _) = some (Value.int .i64 _); first | (rw [← e3]; done) | (rw [← e4]; done) | rfl) | rfl
theorem arrw22 (T : Array Value) (h : T.size = 22) : ∃ v0 v1 v2 v3 v4 v5 v6 v7 v8 v9 v10 v11 v12 v13 v14 v15 v16 v17 v18 v19 v20 v21, T = #[v0, v1, v2, v3, v4, v5, v6, v7, v8, v9, v10, v11, v12, v13, v14, v15, v16, v17, v18, v19, v20, v21] := by
 obtain ⟨l⟩ := T
 simp only [List.size_toArray] at h
 rcases l with _ | ⟨v0, l⟩
 · simp at h
 rcases l with _ | ⟨v1, l⟩
 · simp at h
 rcases l with _ | ⟨v2, l⟩
 · simp at h
 rcases l with _ | ⟨v3, l⟩
 · simp at h
 rcases l with _ | ⟨v4, l⟩
 · simp at h
 rcases l with _ | ⟨v5, l⟩
 · simp at h
 rcases l with _ | ⟨v6, l⟩
 · simp at h
 rcases l with _ | ⟨v7, l⟩
 · simp at h
 rcases l with _ | ⟨v8, l⟩
 · simp at h
 rcases l with _ | ⟨v9, l⟩
 · simp at h
 rcases l with _ | ⟨v10, l⟩
 · simp at h
 rcases l with _ | ⟨v11, l⟩
 · simp at h
 rcases l with _ | ⟨v12, l⟩
 · simp at h
 rcases l with _ | ⟨v13, l⟩
 · simp at h
 rcases l with _ | ⟨v14, l⟩
 · simp at h
 rcases l with _ | ⟨v15, l⟩
 · simp at h
 rcases l with _ | ⟨v16, l⟩
 · simp at h
 rcases l with _ | ⟨v17, l⟩
 · simp at h
 rcases l with _ | ⟨v18, l⟩
 · simp at h
 rcases l with _ | ⟨v19, l⟩
 · simp at h
 rcases l with _ | ⟨v20, l⟩
 · simp at h
 rcases l with _ | ⟨v21, l⟩
 · simp at h
 obtain rfl : l = [] := List.eq_nil_of_length_eq_zero (by simpa using h)
 exact ⟨_, _, _, _, _, _, _, _, _, _, _, _, _, _, _, _, _, _, _, _, _, _, rfl⟩
noncomputable def wLostB : Code := match Try.f17.body with | some (.seq _ (.seq _ (.seq _ (.seq (.seq _ (.block _ (.loop c))) _)))) => c | _ => .skip
noncomputable def wLostT : Code := match Try.f17.body with | some (.seq _ (.seq _ (.seq _ (.seq _ c)))) => c | _ => .skip
/-- Its loop, and what follows it. -/
theorem wLostLoop (hok : flashOk f = true) (next : ∀ w, Wk Gd SB A w0 w1 C f w → Fine Try.prog Post SB (G (cc.finish (.int .i64 (wTorn f))) rest) w) :
 ∀ (m k : Nat) (T : Array Value) (w : World), k + m = 4 → T.size = 22 → T[3]? = some (.int .i64 (wTorn (f.take k))) → T[10]? = some (.slice (some ⟨C, 0, none⟩) 4 4) → T[11]? = some (.int .i64 4) → T[12]? = some (.int .i64 (k : Int)) → Wk Gd SB A w0 w1 C f w → Fine Try.prog Post SB (G ((base 17).at ⟨T, []⟩ [.code wLostB, .inLoop wLostB, .inBlock 0, .code wLostT]) (cc :: rest)) w := by
 have h4 := (flash_four hok).1
 intro m
 induction m with
 | zero =>
   intro k T w hk hT t3 to tl tk hW
   obtain rfl : k = 4 := by omega
   rw [List.take_of_length_le (by omega)] at t3
   obtain ⟨v0, v1, v2, v3, v4, v5, v6, v7, v8, v9, v10, v11, v12, v13, v14, v15, v16, v17, v18, v19, v20, v21, rfl⟩ := arrw22 T hT
   simp only [List.getElem?_toArray, List.getElem?_cons_succ, List.getElem?_cons_zero, Option.some.injEq] at t3 to tl tk
   subst t3 to tl tk
   simp only [wLostB, wLostT, Try.f17]
   refine f_ctl rfl (fun w => stepG_seq) ?_
   refine f_ctl rfl (fun w => stepG_region) ?_
   simp only [List.size_toArray, List.length_cons, List.length_nil, Nat.reduceAdd, Nat.zero_add, List.range, List.range.loop]
   refine f_val (F := fun _ => True) (fun _ _ _ _ => trivial) trivial rfl rfl (by k_ne) (fun w hw => ⟨run_eq_of (fun K hK => by skip; go_simp; exact hK), by skip; rw [listed_nil (by simp [go_sem, ev_min2, ev_max2, *])]; simp⟩) ?_
   walk_nrm
   refine f_ctl rfl (fun w => stepG_region_end) ?_
   refine f_ctl rfl (fun w => stepG_seq) ?_
   refine f_ctl rfl (fun w => stepG_cond (t := false) (by simp [Act.eval])) ?_
   simp only [if_true, Bool.false_eq_true, if_false]
   refine f_ctl rfl (fun w => stepG_exit rfl) ?_

   refine f_ctl rfl (fun w => stepG_seq) ?_
   refine f_ctl rfl (fun w => stepG_region) ?_
   simp only [List.size_toArray, List.length_cons, List.length_nil, Nat.reduceAdd, Nat.zero_add, List.range, List.range.loop]
   refine f_val (F := fun _ => True) (fun _ _ _ _ => trivial) trivial rfl rfl (by k_ne) (fun w hw => ⟨run_eq_of (fun K hK => by skip; go_simp; exact hK), by skip; rw [listed_nil (by simp [go_sem, ev_min2, ev_max2, *])]; simp⟩) ?_
   walk_nrm
   refine f_val (F := fun _ => True) (fun _ _ _ _ => trivial) trivial rfl rfl (by k_ne) (fun w hw => ⟨run_eq_of (fun K hK => by skip; go_simp; exact hK), by skip; rw [listed_nil (by simp [go_sem, ev_min2, ev_max2, *])]; simp⟩) ?_
   walk_nrm
   refine f_ctl rfl (fun w => stepG_region_end) ?_
   refine f_ctl rfl (fun w => stepG_ret') ?_
   refine f_leave rfl rfl Try.func17 (fun w => ⟨?_, ?_⟩) (next w hW)
   · simp [results, Try.f17, go_sem]
   · rw [show (results Try.f17 _).events Try.prog w #[] = #[] by simp [results, Try.f17, go_sem]]
     rfl
 | succ m ih =>
   intro k T w hk hT t3 to tl tk hW
   obtain ⟨b, hb⟩ := get_some (l := f) (k := k) (by omega)
   have hbf := (flash_four hok).2 b (List.mem_of_getElem? hb)
   have hbl := hbf.1
   replace hbf := hbf.2
   have hW0 := hW
   have hk1 : IntKind.i64.wrap ((k : Int) + 1) = ((k + 1 : Nat) : Int) := by rw [IntKind.wrap_i64]; omega
   have hx3 := trivial
   have hx4 := trivial
   obtain ⟨v0, v1, v2, v3, v4, v5, v6, v7, v8, v9, v10, v11, v12, v13, v14, v15, v16, v17, v18, v19, v20, v21, rfl⟩ := arrw22 T hT
   simp only [List.getElem?_toArray, List.getElem?_cons_succ, List.getElem?_cons_zero, Option.some.injEq] at t3 to tl tk
   subst t3 to tl tk
   simp only [wLostB, wLostT, Try.f17]
   refine f_ctl rfl (fun w => stepG_seq) ?_
   refine f_ctl rfl (fun w => stepG_region) ?_
   simp only [List.size_toArray, List.length_cons, List.length_nil, Nat.reduceAdd, Nat.zero_add, List.range, List.range.loop]
   refine f_val (F := fun _ => True) (fun _ _ _ _ => trivial) trivial rfl rfl (by k_ne) (fun w hw => ⟨run_eq_of (fun K hK => by have hlt : (k : Int) < (4 : Int) := (by omega); go_simp; exact hK), by have hlt : (k : Int) < (4 : Int) := (by omega); rw [listed_nil (by simp [go_sem, ev_min2, ev_max2, *])]; simp⟩) ?_
   walk_nrm
   refine f_ctl rfl (fun w => stepG_region_end) ?_
   refine f_ctl rfl (fun w => stepG_seq) ?_
   refine f_ctl rfl (fun w => stepG_cond (t := true) (by have hlt : decide ((k : Int) < (4 : Int)) = true := decide_eq_true (by omega); simp [Act.eval, hlt])) ?_
   simp only [if_true, Bool.false_eq_true, if_false]
   refine f_ctl rfl (fun w => stepG_skip) ?_
   refine f_ctl rfl (fun w => stepG_seq) ?_
   refine f_ctl rfl (fun w => stepG_block) ?_
   refine f_ctl rfl (fun w => stepG_seq) ?_
   refine f_ctl rfl (fun w => stepG_region) ?_
   simp only [List.size_toArray, List.length_cons, List.length_nil, Nat.reduceAdd, Nat.zero_add, List.range, List.range.loop]
   refine f_val (F := fun _ => True) (fun _ _ _ _ => trivial) trivial rfl rfl (by k_ne) (fun w hw => ⟨run_eq_of (fun K hK => by have hlt : (k : Int) < (4 : Int) := (by omega); go_simp; exact hK), by have hlt : (k : Int) < (4 : Int) := (by omega); rw [listed_nil (by simp [go_sem, ev_min2, ev_max2, *])]; simp⟩) ?_
   walk_nrm
   refine f_val (F := Wk Gd SB A w0 w1 C f) Wk.tp hW rfl rfl (by k_ne) (v := .agg #[.int .i64 b.worn, .int .i64 (tornN b.pages : Int)]) (fun w hw => ⟨run_eq_of (fun K hK => by have h0 := (hw.cell hb).1; have h1 := (hw.cell hb).2; go_simp; exact hK), by have h0 := (hw.cell hb).1; have h1 := (hw.cell hb).2; intro e he; have hm := mem_listed he; simp [go_sem, *] at hm; rcases hm with rfl | rfl <;> exact ⟨hw.nsb, hw.lt⟩⟩) ?_
   walk_nrm
   refine f_new (F := Wk Gd SB A w0 w1 C f) Wk.tp hW rfl rfl (by k_ne) (fun b => .pointer (some ⟨b, 0, none⟩)) (.cells #[.int .i64 0, .int .i64 0] 55) (fun w hw => ⟨by go_simp, listed_nil (by simp [go_sem, *])⟩) (fun w hW => ?_)
   walk_nrm
   have hWb := hW
   replace hW := hW.push (.cells #[.int .i64 0, .int .i64 0] 55)
   generalize hwx : ({ w with heap := w.heap.push (.cells #[.int .i64 0, .int .i64 0] 55) } : World) = wx at hW
   obtain ⟨V, hV⟩ : ∃ V, w.heap.size = V := ⟨_, rfl⟩
   rw [hV]
   have hN : Nw Gd SB A w0 w1 C f V #[.int .i64 0, .int .i64 0] wx := by
    have hvt : V < wx.heap.size := by rw [← hwx, ← hV]; simp
    refine ⟨hW, by rw [← hwx, ← hV]; simp, hvt, ?_, ?_, ?_, ?_⟩
    · intro h; have := hWb.co.lt h; omega
    · rw [← hV]; exact hWb.co.bel.size
    · rw [← hV]; exact hWb.bel.size
    · intro h; have := hWb.co.shun h; omega
   clear hwx
   refine f_set (F := Nw Gd SB A w0 w1 C f V #[.int .i64 0, .int .i64 0]) (F' := Nw Gd SB A w0 w1 C f V #[.int .i64 b.worn, .int .i64 (tornN b.pages : Int)]) Nw.tp hN rfl rfl (by k_ne) (fun w => (w.setCell ⟨V, 0, none⟩ (.int .i64 b.worn)).setCell ⟨V, 1, none⟩ (.int .i64 (tornN b.pages : Int))) (fun w hw => ⟨by have h0 := hw.cell 0; have h1 := hw.cell 1; have z0 := hw.thaw 0; have z1 := hw.thaw 1; simp only [List.getElem?_toArray, List.getElem?_cons_succ, List.getElem?_cons_zero] at h0 h1; go_simp, by simp [World.setCell], by have h0 := hw.cell 0; have h1 := hw.cell 1; have z0 := hw.thaw 0; have z1 := hw.thaw 1; simp only [List.getElem?_toArray, List.getElem?_cons_succ, List.getElem?_cons_zero] at h0 h1; intro e he; have hm := mem_listed he; simp [go_sem, *] at hm; rcases hm with rfl | rfl <;> exact ⟨hw.nsb, hw.lt⟩, by simpa using (hw.set 0 (.int .i64 b.worn)).set 1 (.int .i64 (tornN b.pages : Int))⟩) (fun w hN => ?_)
   walk_nrm
   refine f_ctl rfl (fun w => stepG_region_end) ?_
   refine f_ctl rfl (fun w => stepG_region) ?_
   simp only [List.size_toArray, List.length_cons, List.length_nil, Nat.reduceAdd, Nat.zero_add, List.range, List.range.loop]
   refine f_val (F := fun _ => True) (fun _ _ _ _ => trivial) trivial rfl rfl (by k_ne) (fun w hw => ⟨run_eq_of (fun K hK => by skip; go_simp; exact hK), by skip; rw [listed_nil (by simp [go_sem, ev_min2, ev_max2, *])]; simp⟩) ?_
   walk_nrm
   refine f_val (F := fun _ => True) (fun _ _ _ _ => trivial) trivial rfl rfl (by k_ne) (fun w hw => ⟨run_eq_of (fun K hK => by skip; go_simp; exact hK), by skip; rw [listed_nil (by simp [go_sem, ev_min2, ev_max2, *])]; simp⟩) ?_
   walk_nrm
   refine f_val (F := Nw Gd SB A w0 w1 C f V #[.int .i64 b.worn, .int .i64 (tornN b.pages : Int)]) Nw.tp hN rfl rfl (by k_ne) (v := .int .i64 ((tornN b.pages : Int))) (fun w hw => ⟨run_eq_of (fun K hK => by have h0 := hw.cell 1; simp only [List.getElem?_toArray, List.getElem?_cons_succ, List.getElem?_cons_zero] at h0; go_simp; exact hK), by have h0 := hw.cell 1; simp only [List.getElem?_toArray, List.getElem?_cons_succ, List.getElem?_cons_zero] at h0; intro e he; have hm := mem_listed he; simp [go_sem, *] at hm; subst hm; exact ⟨hw.nsb, hw.lt⟩⟩) ?_
   walk_nrm
   refine f_val (F := fun _ => True) (fun _ _ _ _ => trivial) trivial rfl rfl (by k_ne) (fun w hw => ⟨run_eq_of (fun K hK => by have hx := hx3; go_simp; exact hK), by have hx := hx3; rw [listed_nil (by simp [go_sem, ev_min2, ev_max2, *])]; simp⟩) ?_
   walk_nrm
   refine f_val (F := fun _ => True) (fun _ _ _ _ => trivial) trivial rfl rfl (by k_ne) (fun w hw => ⟨run_eq_of (fun K hK => by skip; go_simp; exact hK), by skip; rw [listed_nil (by simp [go_sem, ev_min2, ev_max2, *])]; simp⟩) ?_
   walk_nrm
   refine f_ctl rfl (fun w => stepG_region_end) ?_
   refine f_ctl rfl (fun w => stepG_inBlock) ?_
   refine f_ctl rfl (fun w => stepG_region) ?_
   simp only [List.size_toArray, List.length_cons, List.length_nil, Nat.reduceAdd, Nat.zero_add, List.range, List.range.loop]
   refine f_val (F := fun _ => True) (fun _ _ _ _ => trivial) trivial rfl rfl (by k_ne) (fun w hw => ⟨run_eq_of (fun K hK => by have hk1 := hk1; go_simp; exact hK), by have hk1 := hk1; rw [listed_nil (by simp [go_sem, ev_min2, ev_max2, *])]; simp⟩) ?_
   walk_nrm
   refine f_val (F := fun _ => True) (fun _ _ _ _ => trivial) trivial rfl rfl (by k_ne) (fun w hw => ⟨run_eq_of (fun K hK => by skip; go_simp; exact hK), by skip; rw [listed_nil (by simp [go_sem, ev_min2, ev_max2, *])]; simp⟩) ?_
   walk_nrm
   refine f_ctl rfl (fun w => stepG_region_end) ?_
   refine f_ctl rfl (fun w => stepG_inLoop) ?_
   have htk : f.take (k + 1) = f.take k ++ [b] := by rw [List.take_add_one, hb]; rfl
   have hy3 : IntKind.i64.wrap (wTorn (f.take k) + (tornN b.pages : Int)) = wTorn (f.take k) + (tornN b.pages : Int) := by have := wTorn_small hok (k := k); have := tornN_le b.pages; have := hbl; rw [IntKind.wrap_i64]; omega
   have e3 : wTorn (f.take k) + (tornN b.pages : Int) = wTorn (f.take (k + 1)) := by rw [htk]; unfold wTorn; rw [List.foldl_append]; rfl
   have ih2 := fun T => ih (k + 1) T w (by omega)
   simp only [wLostB, wLostT, Try.f17] at ih2
   refine ih2 _ rfl ?_ rfl rfl ?_ hN.wk
   all_goals first | (show some (Value.int .i64 _) = some (Value.int .i64 _); first | (rw [← e3]; done) | (rw [← e3, hy3]; done) | rfl) | rfl
end
end Go.Proofs.Ytclnogfmmekooaa
namespace Go.Proofs.Ytclnogfmmekooaa
set_option linter.unusedVariables false
set_option linter.unusedSimpArgs false
open Go.RowKit
theorem made_get (z : Array Value) (n j : Nat) (hz : 0 < z.size) (hj : j < n) : (madeCells z n).toList[j]? = z.toList[j % z.size]? := by
 have hm : j % z.size < z.size := Nat.mod_lt _ hz
 simp [madeCells, hj, hm]
theorem flat_rep {α : Type} (g : α → List Value) (x : α) (m : Nat) (hm : (g x).length = m) (h0 : 0 < m) (n : Nat) : ∀ j : Nat, j < n * m → ((List.replicate n x).flatMap g)[j]? = (g x)[j % m]? := by
 induction n with
 | zero => intro j h; omega
 | succ n ih =>
   intro j h
   rw [Nat.succ_mul] at h
   simp only [List.replicate_succ, List.flatMap_cons]
   by_cases hj : j < m
   · rw [List.getElem?_append_left (by omega), Nat.mod_eq_of_lt hj]
   · have h1 := ih (j - m) (by omega)
     rw [List.getElem?_append_right (by omega), hm, h1, Nat.mod_eq_sub_mod (by omega : j ≥ m)]
theorem made_list {α : Type} (g : α → List Value) (x : α) (z : Array Value) (m : Nat) (hm : z.size = m) (hz : z.toList = g x) (h0 : 0 < z.size) (n : Nat) : (madeCells z (n * m)).toList = (List.replicate n x).flatMap g := by
 subst hm
 have hl : (g x).length = z.size := by rw [← hz]; simp
 refine List.ext_getElem? fun j => ?_
 by_cases hj : j < n * z.size
 · rw [made_get z _ j h0 hj, flat_rep g x z.size hl h0 n j hj, hz]
 · have e : ∀ k : Nat, ((List.replicate k x).flatMap g).length = k * z.size := by
    intro k
    induction k with
    | zero => simp
    | succ k ih => rw [List.replicate_succ, List.flatMap_cons, List.length_append, ih, hl, Nat.succ_mul]; omega
   rw [List.getElem?_eq_none (by rw [Array.length_toList, size_madeCells]; omega), List.getElem?_eq_none (by rw [e]; omega)]
theorem run_make_n {P : Program} (t e : TypeId) (i : TypeInfo) (z : Value) (size bytes : Nat) (ht : P.underlying t = some (.slice e)) (hi : P.info? e = some i) (hz : i.zero = some z) (hs : i.size = size) (hb : i.bytes = bytes) (n : Nat) (hn : n * bytes ≤ 281474976710656) (h63 : n ≤ 9223372036854775807) (w : World) :
 (Instr.makeSlice t (.int .i64 (n : Int)) (.int .i64 (n : Int))).run P w = .ok (.slice (some ⟨w.heap.size, 0, none⟩) n n) (w.alloc (.cells (madeCells z.cells (n * size)) e)) := by
 subst hs; subst hb
 have h : (i.bytes : Int) * (n : Int) ≤ 281474976710656 := by
  have h' : ((i.bytes * n : Nat) : Int) ≤ 281474976710656 := by rw [Nat.mul_comm]; omega
  rwa [Int.natCast_mul] at h'
 have hr := run_make (P := P) w t e i z ht hi hz .i64 .i64 n n (by omega) (by omega) h (by omega)
 simp only [Int.toNat_natCast] at hr
 exact hr
theorem hdrs_rep : ∀ n : Nat, hdrs (List.replicate n zbk) (List.replicate n (none, 0)) = (List.replicate n ()).flatMap (fun _ => [Value.slice none 0 0, .int .i64 0])
 | 0 => rfl
 | n + 1 => by simp only [List.replicate_succ, List.flatMap_cons, hdrs, hdrs_rep n]; rfl
/-- cells that can be read -/
def RRow (w : World) (A : Option Addr) (vs : List Value) : Prop := vs ≠ [] → ∃ b o, A = some ⟨b, o, none⟩ ∧ ∀ j u, vs[j]? = some u → w.cell? ⟨b, o + j, none⟩ = some u
theorem RRow.below {w w' : World} {A : Option Addr} {vs : List Value} {B : Nat} (h : RRow w A vs) (hb : Below B w w') (hB : w.heap.size ≤ B) : RRow w' A vs := fun hn => by
 obtain ⟨b, o, rfl, hc⟩ := h hn
 exact ⟨b, o, rfl, fun j u hj => (hb.cell (p := ⟨b, o + j, none⟩) (by have := lt_of_cell (hc j u hj); show b < B; omega)).trans (hc j u hj)⟩
theorem RRow.alloc {w : World} {A : Option Addr} {vs : List Value} (h : RRow w A vs) (o : Obj) : RRow (w.alloc o) A vs := h.below ((Below.refl _ _).alloc (Nat.le_refl _) o) (Nat.le_refl _)
theorem RRow.addr {w : World} {A : Option Addr} {vs : List Value} (h : RRow w A vs) (hn : vs ≠ []) : ∃ b o, A = some ⟨b, o, none⟩ := by
 obtain ⟨b, o, rfl, _⟩ := h hn; exact ⟨b, o, rfl⟩
theorem RRow.pg {w : World} {b o k : Nat} {ps : List Pg} {p : Pg} (h : RRow w (some ⟨b, o, none⟩) (pgs ps)) (hk : ps[k]? = some p) :
 w.cell? ⟨b, o + k * 5, none⟩ = some (.int .i64 p.state) ∧ w.cell? ⟨b, o + k * 5 + 1, none⟩ = some (.int .i64 p.rc.kind) ∧ w.cell? ⟨b, o + k * 5 + 2, none⟩ = some (.int .i64 p.rc.seq) ∧
  w.cell? ⟨b, o + k * 5 + 3, none⟩ = some (.int .i64 p.rc.addr) ∧ w.cell? ⟨b, o + k * 5 + 4, none⟩ = some (.int .i64 p.rc.val) := by
 have hlt := (List.getElem?_eq_some_iff.1 hk).1
 obtain ⟨b', o', he, hc⟩ := h (by intro e; have := pgs_len ps; rw [e] at this; simp at this; omega)
 cases he
 have hg : ∀ j u, p.vs[j]? = some u → j < 5 → w.cell? ⟨b, o + (k * 5 + j), none⟩ = some u := fun j u hj hl => hc (k * 5 + j) u (by rw [pgs, flat_get _ 5 (fun _ => rfl) ps k j p hk hl]; exact hj)
 exact ⟨hg 0 _ rfl (by omega), hg 1 _ rfl (by omega), hg 2 _ rfl (by omega), hg 3 _ rfl (by omega), hg 4 _ rfl (by omega)⟩
structure RBks (w : World) (A : Option Addr) (f : List Bk) (hs : List (Option Addr × Nat)) : Prop where
 len : hs.length = f.length
 row : RRow w A (hdrs f hs)
 pg : ∀ (i : Nat) (b : Bk) (x : Option Addr × Nat), f[i]? = some b → hs[i]? = some x → RRow w x.1 (pgs b.pages)
theorem RBks.below {w w' : World} {A : Option Addr} {f : List Bk} {hs : List (Option Addr × Nat)} {B : Nat} (h : RBks w A f hs) (hb : Below B w w') (hB : w.heap.size ≤ B) : RBks w' A f hs :=
 ⟨h.len, h.row.below hb hB, fun i b x h1 h2 => (h.pg i b x h1 h2).below hb hB⟩
theorem RBks.addr {w : World} {A : Option Addr} {f : List Bk} {hs : List (Option Addr × Nat)} (h : RBks w A f hs) (hn : f ≠ []) : ∃ b o, A = some ⟨b, o, none⟩ :=
 h.row.addr (by
  intro e
  have hl := hdrs_len f hs h.len
  rw [e] at hl
  exact hn (List.eq_nil_of_length_eq_zero (by simp at hl; omega)))
theorem RBks.at_ {w : World} {g o i : Nat} {f : List Bk} {hs : List (Option Addr × Nat)} {b : Bk} (h : RBks w (some ⟨g, o, none⟩) f hs) (hi : f[i]? = some b) :
 ∃ x, hs[i]? = some x ∧ w.cell? ⟨g, o + i * 2, none⟩ = some (.slice x.1 b.pages.length x.2) ∧ w.cell? ⟨g, o + i * 2 + 1, none⟩ = some (.int .i64 b.worn) ∧ RRow w x.1 (pgs b.pages) := by
 have hlt := (List.getElem?_eq_some_iff.1 hi).1
 obtain ⟨x, hx⟩ := get_some (l := hs) (k := i) (by rw [h.len]; exact hlt)
 obtain ⟨g1, g2⟩ := hdrs_get f hs i b x hi hx
 obtain ⟨b', o', he, hc⟩ := h.row (by intro e; rw [e] at g1; simp at g1)
 cases he
 exact ⟨x, hx, hc _ _ g1, hc _ _ g2, h.pg i b x hi hx⟩
end Go.Proofs.Ytclnogfmmekooaa
namespace Go.Proofs.Ytclnogfmmekooaa
set_option linter.unusedVariables false
set_option linter.unusedSimpArgs false
open Go.RowKit Go.Maps
set_option maxHeartbeats 400000
def bytes (bs : List Nat) : List Value := bs.map fun (b : Nat) => Value.int .u8 (b : Int)
/-- a reader in block R, above B, of a code that lies below B; its place is not above m -/
def Rd (w : World) (B R m : Nat) : Prop :=
 ∃ (A : Option Addr) (bs : List Nat) (c p : Nat), w.cell? ⟨R, 0, none⟩ = some (.slice A bs.length c) ∧ w.cell? ⟨R, 1, none⟩ = some (.int .i64 p) ∧ w.frozen? ⟨R, 1, none⟩ = false ∧ p ≤ m ∧ bs.length ≤ 2000 ∧ (∀ b ∈ bs, b < 256) ∧
   RRow w A (bytes bs) ∧ (bs ≠ [] → ∀ b, blk A b → b < B) ∧ B ≤ R
theorem Rd.lt {w : World} {B R m : Nat} (h : Rd w B R m) : R < w.heap.size := by obtain ⟨A, bs, c, p, h1, _⟩ := h; exact lt_of_cell h1
theorem Rd.mono {w : World} {B R m n : Nat} (h : Rd w B R m) (hm : m ≤ n) : Rd w B R n := by
 obtain ⟨A, bs, c, p, h1, h2, h3, h4, h5⟩ := h
 exact ⟨A, bs, c, p, h1, h2, h3, by omega, h5⟩
theorem bytes_ne {bs : List Nat} (h : bytes bs ≠ []) : bs ≠ [] := fun e => h (by rw [e]; rfl)
theorem ne_bytes {bs : List Nat} (h : bs ≠ []) : bytes bs ≠ [] := fun e => h (by simpa [bytes] using e)
theorem RRow.low {w : World} {A : Option Addr} {bs : List Nat} (h : RRow w A (bytes bs)) (hn : bs ≠ []) : ∀ b, blk A b → b < w.heap.size := fun b hb => by
 obtain ⟨b', o, rfl, hc⟩ := h (ne_bytes hn)
 rw [blk_some] at hb
 subst hb
 cases bs with
 | nil => exact absurd rfl hn
 | cons x bs => exact lt_of_cell (hc 0 _ rfl)
theorem RRow.keep {w w' : World} {A : Option Addr} {vs : List Value} (h : RRow w A vs) (hk : vs ≠ [] → ∀ b, blk A b → b < w.heap.size → w'.heap[b]? = w.heap[b]?) : RRow w' A vs := fun hn => by
 replace hk := hk hn
 obtain ⟨b, o, rfl, hc⟩ := h hn
 refine ⟨b, o, rfl, fun j u hj => ?_⟩
 have h1 := hc j u hj
 exact (World.cell?_of_block (a := ⟨b, o + j, none⟩) (hk b (blk_some.2 rfl) (lt_of_cell h1))).trans h1
/-- what leaves R's block and the blocks below B as they are leaves the reader -/
theorem Rd.keep {w w' : World} {B R m : Nat} (h : Rd w B R m) (hk : ∀ b, b = R ∨ b < B → b < w.heap.size → w'.heap[b]? = w.heap[b]?) : Rd w' B R m := by
 obtain ⟨A, bs, c, p, h1, h2, h3, h4, h5, h6, h7, h8, h9⟩ := h
 have hR := hk R (.inl rfl) (lt_of_cell h1)
 exact ⟨A, bs, c, p, (World.cell?_of_block (a := ⟨R, 0, none⟩) hR).trans h1, (World.cell?_of_block (a := ⟨R, 1, none⟩) hR).trans h2, (World.frozen?_of_block (a := ⟨R, 1, none⟩) hR).trans h3, h4, h5, h6, h7.keep fun hn b hb hl => hk b (.inr (h8 (bytes_ne hn) b hb)) hl, h8, h9⟩
theorem Rd.agr {w w' : World} {B R m : Nat} {S : Nat → Prop} (h : Rd w B R m) (ha : Agr S w w') (h1 : ¬ S R) (h2 : ∀ b, b < B → ¬ S b) : Rd w' B R m :=
 h.keep fun b hb hl => ha.block b hl (by rcases hb with rfl | hb; exact h1; exact h2 b hb)
theorem Rd.below {w w' : World} {B R m C : Nat} (h : Rd w B R m) (hb : Below C w w') (hC : w.heap.size ≤ C) : Rd w' B R m :=
 h.keep fun b _ hl => hb.block b (by omega)
theorem Rd.alloc {w : World} {B R m : Nat} (h : Rd w B R m) (o : Obj) : Rd (w.alloc o) B R m := h.below (C := w.heap.size) ((Below.refl _ _).alloc (Nat.le_refl _) _) (Nat.le_refl _)
theorem Rd.drew {w : World} {B R m : Nat} (h : Rd w B R m) : Rd w.drew B R m := h.keep fun _ _ _ => rfl
end Go.Proofs.Ytclnogfmmekooaa
namespace Go.Proofs.Ytclnogfmmekooaa
set_option linter.unusedVariables false
set_option linter.unusedSimpArgs false
open Go.RowKit Go.Maps
set_option maxHeartbeats 400000
/-- a page stored: five cells -/
theorem wrote_page {w : World} {b o k : Nat} {ps : List Pg} {q : Pg} (h : Row w (some ⟨b, o, none⟩) (pgs ps)) (hk : ps[k]? = some q) (p : Pg) :
 Wrote w (((((w.setCell ⟨b, o + k * 5, none⟩ (.int .i64 p.state)).setCell ⟨b, o + k * 5 + 1, none⟩ (.int .i64 p.rc.kind)).setCell ⟨b, o + k * 5 + 2, none⟩ (.int .i64 p.rc.seq)).setCell ⟨b, o + k * 5 + 3, none⟩ (.int .i64 p.rc.addr)).setCell ⟨b, o + k * 5 + 4, none⟩ (.int .i64 p.rc.val)) b (o + k * 5) p.vs := by
 refine wrote_setRow b p.vs (o + k * 5) w fun j hj => ?_
 obtain ⟨c0, c1, c2, c3, c4⟩ := h.pg hk
 match j, hj with
 | 0, _ => exact ⟨_, c0⟩
 | 1, _ => exact ⟨_, c1⟩
 | 2, _ => exact ⟨_, c2⟩
 | 3, _ => exact ⟨_, c3⟩
 | 4, _ => exact ⟨_, c4⟩
theorem Row.setPage {w w' : World} {b o k : Nat} {ps : List Pg} {p : Pg} (h : Row w (some ⟨b, o, none⟩) (pgs ps)) (hk : k < ps.length) (hw : Wrote w w' b (o + k * 5) p.vs) : Row w' (some ⟨b, o, none⟩) (pgs (ps.set k p)) := by
 rw [pgs_set ps k p hk]
 exact hw.row h (by rw [pgs_len]; simp [Pg.vs]; omega)

end Go.Proofs.Ytclnogfmmekooaa
namespace Go.Proofs.Ytclnogfmmekooaa
set_option linter.unusedVariables false
set_option linter.unusedSimpArgs false
open Go.RowKit Go.Maps
set_option maxHeartbeats 400000
def pg0 : Pg := ⟨0, rc0⟩
/-- block i wiped -/
def wipe (f : List Bk) (i : Nat) (torn : Bool) : List Bk :=
 f.set i ⟨List.replicate 4 (if torn then ⟨2, rc0⟩ else pg0), (f.getD i zbk).worn + 1⟩
/-- block i of a flash of one's own is replaced by newer pages -/
theorem OFl.replaced {w3 w4 w5 : World} {lo g b i n : Nat} {f : List Bk} {hs : List (Option Addr × Nat)} {c : Bk} (hBk : Bks w3 (some ⟨g, 0, none⟩) f hs) (hApt : Apt lo w3.heap.size (some ⟨g, 0, none⟩) hs) (hi : i < f.length)
 (h1 : w3.heap.size ≤ b) (h2 : b < w4.heap.size) (h3 : Row w4 (some ⟨b, 0, none⟩) (pgs c.pages)) (h4 : Below w3.heap.size w3 w4) (hc : c.pages.length = n) (hlo : lo ≤ w3.heap.size) (hW : Wrote w4 w5 g (0 + i * 2) [.slice (some ⟨b, 0, none⟩) n n, .int .i64 c.worn]) :
 OFl w5 lo w5.heap.size (some ⟨g, 0, none⟩) (f.set i c) ∧ Below lo w3 w5 := by
 subst hc
 have hBk1 := hBk.below h4 (Nat.le_refl _)
 have hg := hApt.top g (by rw [blk_some])
 have hs4 := h4.size
 refine ⟨⟨_, hBk1.setBlock (i := i) (x := (some ⟨b, 0, none⟩, c.pages.length)) (c := c) hi (fun j y hy e => (hApt.in_ j y _ hy e).2.2 rfl) (by rw [blk_some]; omega) h3 (Nat.le_refl _) hW, ?_⟩, ?_⟩
 · rw [hW.size]
   exact hApt.set (hi' := w4.heap.size) i _ (fun d hd => by rw [blk_some] at hd; omega) hlo (by omega)
 · exact (h4.mono hlo).trans (hW.agr.below (by omega) (fun k e => by rw [e]; exact hg.1))
end Go.Proofs.Ytclnogfmmekooaa
namespace Go.Proofs.Ytclnogfmmekooaa
set_option linter.unusedVariables false
set_option linter.unusedSimpArgs false
def isClean (p : Pg) : Bool := decide (p.state = 0)
def clean (b : Bk) : Nat := b.pages.countP isClean
def lastStep (addr : Int) (o : Rc) (p : Pg) : Rc := if p.state = 1 ∧ p.rc.addr = addr ∧ o.seq < p.rc.seq then p.rc else o
def lastPs (addr : Int) (o : Rc) (ps : List Pg) : Rc := ps.foldl (lastStep addr) o
def last (f : List Bk) (addr : Int) : Rc := f.foldl (fun o b => lastPs addr o b.pages) rc0
def live (f : List Bk) (p : Pg) : Bool := decide (p.state = 1) && decide (last f p.rc.addr = p.rc)
def mostPs (n : Int) (ps : List Pg) : Int := ps.foldl (fun n p => max n p.rc.seq) n
def most (b : Bk) : Int := mostPs 0 b.pages
def leastStep (n : Int) (p : Pg) : Int := if 0 < p.rc.seq ∧ (n = 0 ∨ p.rc.seq < n) then p.rc.seq else n
def least (b : Bk) : Int := b.pages.foldl leastStep 0
def topSeq (f : List Bk) : Int := f.foldl (fun n b => max n (most b)) 0
def next (f : List Bk) : Int := topSeq f + 1
def openGo (f : List Bk) : Nat → Int → List Bk → Int × Bool
 | _, out, [] => (max out 0, decide (0 ≤ out))
 | i, out, b :: r => if 0 < clean b ∧ clean b < 4 then (i, true) else if 0 < clean b ∧ (out < 0 ∨ b.worn < (f.getD out.toNat zbk).worn) then openGo f (i + 1) i r else openGo f (i + 1) out r
def openB (f : List Bk) : Int × Bool := openGo f 0 (-1) f
def oldGo (f : List Bk) : Nat → Nat → List Bk → Nat
 | _, out, [] => out
 | i, out, b :: r => if most b < most (f.getD out zbk) then oldGo f (i + 1) i r else oldGo f (i + 1) out r
def old (f : List Bk) : Nat := oldGo f 1 0 (f.drop 1)
end Go.Proofs.Ytclnogfmmekooaa
namespace Go.Proofs.Ytclnogfmmekooaa
set_option linter.unusedVariables false
set_option linter.unusedSimpArgs false
end Go.Proofs.Ytclnogfmmekooaa
namespace Go.Proofs.Ytclnogfmmekooaa
set_option linter.unusedVariables false
set_option linter.unusedSimpArgs false
open Go.RowKit Go.Maps
set_option maxHeartbeats 400000
end Go.Proofs.Ytclnogfmmekooaa
namespace Go.Proofs.Ytclnogfmmekooaa
set_option linter.unusedVariables false
set_option linter.unusedSimpArgs false
open Go.RowKit Go.Maps
set_option maxHeartbeats 400000
theorem Row.rc {w : World} {b o : Nat} {x : Rc} (h : Row w (some ⟨b, o, none⟩) x.vs) :
 w.cell? ⟨b, o, none⟩ = some (.int .i64 x.kind) ∧ w.cell? ⟨b, o + 1, none⟩ = some (.int .i64 x.seq) ∧ w.cell? ⟨b, o + 2, none⟩ = some (.int .i64 x.addr) ∧ w.cell? ⟨b, o + 3, none⟩ = some (.int .i64 x.val) := by
 obtain ⟨b', o', he, hc⟩ := h (by simp [Rc.vs])
 cases he
 exact ⟨(hc 0 _ rfl).1, (hc 1 _ rfl).1, (hc 2 _ rfl).1, (hc 3 _ rfl).1⟩
end Go.Proofs.Ytclnogfmmekooaa
namespace Go.Proofs.Ytclnogfmmekooaa
set_option linter.unusedVariables false
set_option linter.unusedSimpArgs false
open Go.RowKit Go.Maps
set_option maxHeartbeats 400000
end Go.Proofs.Ytclnogfmmekooaa
namespace Go.Proofs.Ytclnogfmmekooaa
set_option linter.unusedVariables false
set_option linter.unusedSimpArgs false
open Go.RowKit Go.Maps
set_option maxHeartbeats 400000
theorem Bks.worn {w : World} {g o i : Nat} {f : List Bk} {hs : List (Option Addr × Nat)} {b : Bk} (h : Bks w (some ⟨g, o, none⟩) f hs) (hi : f[i]? = some b) : w.cell? ⟨g, o + i * 2 + 1, none⟩ = some (.int .i64 b.worn) := by
 obtain ⟨_, _, _, z1, _⟩ := h.at_ hi; exact z1
end Go.Proofs.Ytclnogfmmekooaa
namespace Go.Proofs.Ytclnogfmmekooaa
set_option linter.unusedVariables false
set_option linter.unusedSimpArgs false
open Go.RowKit
theorem run_marks : ∃ cs : Array Value, (∀ w : World, (Instr.makeSlice 60 (.int .i64 601) (.int .i64 601)).run Try.prog w = .ok (.slice (some ⟨w.heap.size, 0, none⟩) 601 601) (w.alloc (.cells cs 4))) ∧ ∀ j : Nat, j < 601 → cs[j]? = some (.bool false) := by
 refine ⟨Array.replicate 601 (.bool false), fun w => ?_, fun j hj => by simp [hj]⟩
 kernel_rfl
end Go.Proofs.Ytclnogfmmekooaa
namespace Go.Proofs.Ytclnogfmmekooaa
set_option linter.unusedVariables false
set_option linter.unusedSimpArgs false
open Go.RowKit Go.Maps
set_option maxHeartbeats 400000
theorem spec_RecOk (r : Rc) (w : World) : Calls Try.prog 59 #[.agg #[.int .i64 r.kind, .int .i64 r.seq, .int .i64 r.addr, .int .i64 r.val]] w fun e w' => e = .returned (.bool (recOk r)) ∧ Below w.heap.size w w' := by
 obtain ⟨k, s, a, v⟩ := r
 dsimp only
 have hB : Below w.heap.size w (w.alloc (.cells #[.int .i64 k, .int .i64 s, .int .i64 a, .int .i64 v] 40)) := (Below.refl _ _).alloc (Nat.le_refl _) _
 have hq : Hid (∀ x, x = (decide (1 ≤ k) && decide (k ≤ 2) && (decide (1 ≤ s) && decide (s ≤ 600)) && (decide (1 ≤ a) && decide (a ≤ 6)) && (decide (0 ≤ v) && decide (v ≤ 9))) → recOk ⟨k, s, a, v⟩ = x) := by
  intro x hx
  rw [hx]
  unfold recOk kindB addrB valB
  rw [Bool.eq_iff_iff]
  simp
  omega
 go_enter Try.func59, Try.ntmps59
 go_wp2_with (go_at_call 36; refine (spec_l6In _ _ _ _).mono ?_; rintro e w' ⟨rfl, rfl⟩)
 all_goals (go_ret; exact ⟨ret_bool (hq.out _ (by simp [*])).symm, hB⟩)
theorem spec_l2Page (p : Pg) (w : World) : Calls Try.prog 37 #[.agg #[.int .i64 p.state, .int .i64 p.rc.kind, .int .i64 p.rc.seq, .int .i64 p.rc.addr, .int .i64 p.rc.val]] w fun e w' => e = .returned (.bool (pageOk p)) ∧ Below w.heap.size w w' := by
 obtain ⟨st, r⟩ := p
 dsimp only
 have hB : Below w.heap.size w (w.alloc (.cells #[.int .i64 st, .int .i64 r.kind, .int .i64 r.seq, .int .i64 r.addr, .int .i64 r.val] 42)) := (Below.refl _ _).alloc (Nat.le_refl _) _
 by_cases h1 : st = 1
 · subst h1
   have hq : Hid (pageOk ⟨1, r⟩ = recOk r) := rfl
   go_enter Try.func37, Try.ntmps37
   go_wp2_with (go_at_call 59; refine (spec_RecOk r _).mono ?_; rintro e w1 ⟨rfl, hb⟩)
   go_ret
   exact ⟨ret_bool hq.out.symm, hB.trans (hb.mono (by simp))⟩
 clear hB
 obtain ⟨k, s, a, v⟩ := r
 dsimp only
 by_cases h0 : st = 0
 · subst h0
   have hq : Hid (pageOk ⟨0, ⟨k, s, a, v⟩⟩ = decide ((⟨k, s, a, v⟩ : Rc) = rc0)) := rfl
   go_enter Try.func37, Try.ntmps37
   go_wp2
   all_goals (go_ret; exact ⟨ret_bool (by rw [hq.out]; simp [rc0, *]), (Below.refl _ _).alloc (Nat.le_refl _) _⟩)
 by_cases h2 : st = 2
 · subst h2
   have hq : Hid (pageOk ⟨2, ⟨k, s, a, v⟩⟩ = decide ((⟨k, s, a, v⟩ : Rc) = rc0)) := rfl
   go_enter Try.func37, Try.ntmps37
   go_wp2
   all_goals (go_ret; exact ⟨ret_bool (by rw [hq.out]; simp [rc0, *]), (Below.refl _ _).alloc (Nat.le_refl _) _⟩)
 have hk : Hid (pageOk ⟨st, ⟨k, s, a, v⟩⟩ = false) := by unfold Hid pageOk; simp [h1, h2, h0]
 go_enter Try.func37, Try.ntmps37
 go_wp2
 go_ret
 exact ⟨ret_bool hk.out.symm, (Below.refl _ _).alloc (Nat.le_refl _) _⟩

/-- a row of marks: is the number among seen? -/
def Marks (w : World) (g : Nat) (seen : List Int) : Prop := ∀ j : Nat, j < 601 → w.cell? ⟨g, j, none⟩ = some (.bool (decide ((j : Int) ∈ seen))) ∧ w.frozen? ⟨g, j, none⟩ = false
theorem Marks.below {w w' : World} {g B : Nat} {seen : List Int} (h : Marks w g seen) (hb : Below B w w') (hg : g < B) : Marks w' g seen := fun j hj =>
 ⟨(hb.cell (p := ⟨g, j, none⟩) hg).trans (h j hj).1, (hb.frozen (p := ⟨g, j, none⟩) hg).trans (h j hj).2⟩
theorem Marks.put {w : World} {g n : Nat} {seen : List Int} (h : Marks w g seen) (hn : n < 601) : Marks (w.setCell ⟨g, n, none⟩ (.bool true)) g ((n : Int) :: seen) := fun j hj => by
 refine ⟨?_, (World.frozen?_setCell _ _ _ _).trans (h j hj).2⟩
 by_cases e : j = n
 · subst e
   rw [World.cell?_setCell_same w _ _ (h j hj).1]; simp
 · rw [World.cell?_setCell_other w _ _ _ (fun e' => e (by injection e' with _ e2 _; exact e2.symm)), (h j hj).1]
   simp [show ¬ (j : Int) = n by omega]
theorem Marks.same {w : World} {g n : Nat} {seen : List Int} (h : Marks w g seen) (hn : n < 601) (hs : ¬ (n : Int) ∈ seen) : Marks (w.setCell ⟨g, n, none⟩ (.bool false)) g seen := fun j hj => by
 refine ⟨?_, (World.frozen?_setCell _ _ _ _).trans (h j hj).2⟩
 by_cases e : j = n
 · subst e
   rw [World.cell?_setCell_same w _ _ (h j hj).1]; simp [hs]
 · rw [World.cell?_setCell_other w _ _ _ (fun e' => e (by injection e' with _ e2 _; exact e2.symm)), (h j hj).1]
end Go.Proofs.Ytclnogfmmekooaa
namespace Go.Proofs.Ytclnogfmmekooaa
set_option linter.unusedVariables false
set_option linter.unusedSimpArgs false
open Go.RowKit Go.Maps
set_option maxHeartbeats 400000
set_option maxRecDepth 100000 in
set_option maxHeartbeats 2000000 in
theorem spec_FlashOk (f : List Bk) (A : Option Addr) (c : Nat) (w : World) (hlen : f.length < 1000000000000) (hF : Fl w A f) : Calls Try.prog 19 #[.slice A f.length c] w fun e w' => e = .returned (.bool (flashOk f)) ∧ Below w.heap.size w w' := by
 obtain ⟨hs, hF⟩ := hF
 obtain ⟨cs, hmk, hcs⟩ := run_marks
 have hfin : Hid (flashOk f = (decide (f.length = 4) && sblocksGo [] f)) := by unfold Hid flashOk; rw [sblocksGo_eq]
 have hB0 : Below w.heap.size w (w.alloc (.cells cs 4)) := (Below.refl _ _).alloc (Nat.le_refl _) _
 have hM0 : Marks (w.alloc (.cells cs 4)) w.heap.size [] := fun j hj => ⟨by simp [hcs j hj], by simp⟩
 clear hcs
 go_enter Try.func19, Try.ntmps19
 go_wp2
 go_loopw [4] (fun i wr => ∃ (k : Nat) (seen : List Int), k ≤ f.length ∧ i = .int .i64 k ∧ Below w.heap.size w wr ∧ w.heap.size < wr.heap.size ∧ Marks wr w.heap.size seen ∧ (∀ x ∈ seen, 1 ≤ x) ∧ Hid (sblocksGo [] f = sblocksGo seen (f.drop k))) (fun i _ => f.length - (intOf i).toNat)
 case atStart => exact ⟨0, [], by omega, rfl, hB0, by simp, hM0, by simp, rfl⟩
 case round =>
  clear hM0 hB0
  obtain ⟨k, seen, hk, rfl, hb, hsz, hM, hpos, hg⟩ := hrel
  by_cases hlt : k < f.length
  · obtain ⟨B, hB⟩ := get_some hlt
    have hd := Lib.hid (drop_cons hB)
    obtain ⟨bk, off, rfl⟩ := hF.addr (by rintro rfl; simp at hlt)
    obtain ⟨⟨Ap, cp⟩, _, c0, c1, _, _, hR, hlc⟩ := hF.at_ hB
    have hbk : bk < w.heap.size := lt_of_cell c0
    have c00 := c0
    replace c0 := (hb.cell (p := ⟨bk, off + k * 2, none⟩) hbk).trans c0
    replace c1 := (hb.cell (p := ⟨bk, off + k * 2 + 1, none⟩) hbk).trans c1
    have HBB := Lib.hid hB
    clear hB
    obtain ⟨Ps, wn⟩ := B
    dsimp only at *
    have hlt' : (k : Int) < f.length := by omega
    by_cases hl4 : Ps.length = 4
    · by_cases hwn : 0 ≤ wn ∧ wn ≤ 200
      · have hstep : Hid (sblocksGo [] f = spagesGo seen false (fun s => sblocksGo s (f.drop (k + 1))) Ps) := by rw [Hid, hg.out, hd.out, sblocksGo, if_neg (by simp [hl4]; omega)]
        have hdw : (decide (0 ≤ wn) && decide (wn ≤ 200)) = true := by simp [hwn.1, hwn.2]
        obtain ⟨pb, po, rfl⟩ := hR.addr (pgs_ne (by rintro rfl; simp at hl4))
        have HL := Lib.hid hl4
        rw [hl4] at c0 c00
        have C0 := Lib.hid c00
        clear hl4 hlc hg hd hwn c00
        have HPOS := Lib.hid hpos
        clear hpos
        go_wp2_with (go_at_call 36; refine (spec_l6In _ _ _ _).mono ?_; rintro e w' ⟨rfl, rfl⟩; rw [hdw])
        go_loopw [5] (fun i wr => ∃ (j : Nat) (seen : List Int), j ≤ 4 ∧ i = .int .i64 j ∧ Below w.heap.size w wr ∧ w.heap.size < wr.heap.size ∧ Marks wr w.heap.size seen ∧ Hid (∀ x ∈ seen, 1 ≤ x) ∧ Hid (sblocksGo [] f = spagesGo seen (match j with | 0 => false | m + 1 => (Ps.getD m ⟨0, rc0⟩).state == 0) (fun s => sblocksGo s (f.drop (k + 1))) (Ps.drop j))) (fun i _ => 4 - (intOf i).toNat)
        case atStart => exact ⟨0, seen, by omega, rfl, hb, hsz, hM, HPOS, hstep.out⟩
        case round =>
         clear hM seen hsz hb hstep HPOS c0 c1
         obtain ⟨j, seen, hj, rfl, hb, hsz, hM, HPOS, hg⟩ := hrel
         by_cases hltj : j < 4
         · obtain ⟨p, hp⟩ := get_some (l := Ps) (k := j) (by have := HL.out; omega)
           have hd := Lib.hid (drop_cons hp)
           have HP := Lib.hid hp
           have b0 := (hb.cell (p := ⟨bk, off + k * 2, none⟩) hbk).trans C0.out
           obtain ⟨c0, c1, c2, c3, c4⟩ := (hR.below hb (Nat.le_refl _)).pg hp
           clear hp
           obtain ⟨st, ⟨kd, sq, ad, vl⟩⟩ := p
           dsimp only at *
           have hltj' : (j : Int) < 4 := by omega
           by_cases hpo : pageOk ⟨st, ⟨kd, sq, ad, vl⟩⟩ = true
           · have hsq : 0 ≤ sq ∧ sq ≤ 600 ∧ (st = 1 → 1 ≤ sq) ∧ (st ≠ 1 → sq = 0) ∧ (st = 0 ∨ st = 1 ∨ st = 2) := by
              unfold pageOk at hpo
              by_cases h1 : st = 1
              · simp [h1, recOk] at hpo; omega
              · rw [if_neg h1] at hpo
                by_cases h2 : st = 0 ∨ st = 2
                · rw [if_pos h2] at hpo; simp [rc0] at hpo; omega
                · rw [if_neg h2] at hpo; cases hpo
             obtain ⟨hs0, hs6, hs1, hsn, hst⟩ := hsq
             obtain ⟨n, rfl⟩ := Int.eq_ofNat_of_zero_le hs0
             have hn : n < 601 := by omega
             have hgetj : (Ps.getD j ⟨0, rc0⟩) = ⟨st, ⟨kd, (n : Int), ad, vl⟩⟩ := by rw [List.getD_eq_getElem?_getD, HP.out]; rfl
             have HG := Lib.hid hgetj
             clear hgetj
             go_wp2_with fail
             refine (spec_l2Page ⟨st, ⟨kd, (n : Int), ad, vl⟩⟩ _).mono ?_
             rintro e w1 ⟨rfl, hb1⟩
             rw [hpo]
             have x0 : w1.cell? ⟨wr.heap.size, 0, none⟩ = some (.int .i64 st) := (hb1.cell (by simp)).trans (by simp)
             have x2 : w1.cell? ⟨wr.heap.size, 2, none⟩ = some (.int .i64 n) := (hb1.cell (by simp)).trans (by simp)
             have hB1 : Below w.heap.size w w1 := (hb.alloc hb.size _).trans (hb1.mono (by have := hb.size; simp; omega))
             have hM1 : Marks w1 w.heap.size seen := (hM.below (B := wr.heap.size) ((Below.refl _ _).alloc (Nat.le_refl _) _) hsz).below hb1 (by simp; omega)
             have hsz1 : w.heap.size < w1.heap.size := by have := hb1.size; simp at this; omega
             have b1 := (hB1.cell (p := ⟨bk, off + k * 2, none⟩) hbk).trans C0.out
             obtain ⟨m0, m1⟩ := hM1 n hn
             have hR1 := hR.below hB1 (Nat.le_refl _)
             clear hb1 c0 c1 c2 c3 c4 hM b0
             have hnn : (0 : Int) ≤ n := by omega
             have hn6 : (n : Int) < 601 := by omega
             -- what is next
             have hnext : Hid (∀ s', spagesGo s' ((⟨st, ⟨kd, (n : Int), ad, vl⟩⟩ : Pg).state == 0) (fun s => sblocksGo s (f.drop (k + 1))) (Ps.drop (j + 1)) = spagesGo s' (match j + 1 with | 0 => false | m + 1 => (Ps.getD m ⟨0, rc0⟩).state == 0) (fun s => sblocksGo s (f.drop (k + 1))) (Ps.drop (j + 1))) := by intro s'; simp only [HG.out]
             by_cases hst1 : st = 1
             · subst hst1
               have hn1 := hs1 rfl
               have HPO := Lib.hid hpo
               clear hs1 hsn hst hpo
               rcases j with _ | m
               · -- the first page
                 have hj0 : ¬ (0 < ((0 : Nat) : Int)) := by omega
                 by_cases hin : (n : Int) ∈ seen
                 · have m0' : w1.cell? ⟨w.heap.size, n, none⟩ = some (.bool true) := by rw [m0]; simp [hin]
                   have hno : Hid (sblocksGo [] f = false) := by
                    rw [Hid, hg.out, hd.out]; exact spagesGo_no (.inr (.inr ⟨rfl, hin⟩))
                   clear m0 hg hd hin
                   go_wp2
                   go_ret
                   exact ⟨ret_bool (by rw [hfin.out, hno.out, Bool.and_false]), hB1⟩
                 · have m0' : w1.cell? ⟨w.heap.size, n, none⟩ = some (.bool false) := by rw [m0]; simp [hin]
                   have hM5 := hM1.put hn
                   have hB5 : Below w.heap.size w (w1.setCell ⟨w.heap.size, n, none⟩ (.bool true)) := hB1.setCell (p := ⟨w.heap.size, n, none⟩) (Nat.le_refl _) _
                   have HPOS5 : Hid (∀ x ∈ (n : Int) :: seen, 1 ≤ x) := by intro x hx; rcases List.mem_cons.1 hx with rfl | hx; exact hn1; exact HPOS.out x hx
                   have hstep : Hid (sblocksGo [] f = spagesGo ((n : Int) :: seen) (match 0 + 1 with | 0 => false | m + 1 => (Ps.getD m ⟨0, rc0⟩).state == 0) (fun s => sblocksGo s (f.drop (k + 1))) (Ps.drop (0 + 1))) := by
                    rw [Hid, hg.out, hd.out, spagesGo_put HPO.out (fun h => by cases h) rfl hin]; exact hnext.out _
                   clear m0 hg hd hM1 hin
                   go_wp2
                   go_region
                   go_wp2
                   go_roundw
                   case rel => exact ⟨0 + 1, _, by omega, by go_num, hB5.drew, by simpa using hsz1, hM5, HPOS5, hstep⟩
                   case measure => simp [intOf]
               · obtain ⟨q, hq⟩ := get_some (l := Ps) (k := m) (by have := HL.out; omega)
                 have hgq : (Ps.getD m ⟨0, rc0⟩) = q := by rw [List.getD_eq_getElem?_getD, hq]; rfl
                 obtain ⟨q0, _, _, _, _⟩ := hR1.pg hq
                 have hjm : (0 : Int) < ((m + 1 : Nat) : Int) := by omega
                 have hm1 : (m : Int) < 4 := by omega
                 by_cases hq0 : q.state = 0
                 · have hno : Hid (sblocksGo [] f = false) := by
                    rw [Hid, hg.out, hd.out]; exact spagesGo_no (.inr (.inl ⟨by simp only [hgq, hq0]; rfl, by simp⟩))
                   rw [hq0] at q0
                   clear hq hgq hq0 hg hd
                   go_wp2
                   go_ret
                   exact ⟨ret_bool (by rw [hfin.out, hno.out, Bool.and_false]), hB1⟩
                 · have hq0' : (q.state == 0) = false := by simpa using hq0
                   have hpcf : (Ps.getD m ⟨0, rc0⟩).state = 0 → False := by rw [hgq]; exact hq0
                   have HPC := Lib.hid hpcf
                   clear hpcf hgq hq
                   by_cases hin : (n : Int) ∈ seen
                   · have m0' : w1.cell? ⟨w.heap.size, n, none⟩ = some (.bool true) := by rw [m0]; simp [hin]
                     have hno : Hid (sblocksGo [] f = false) := by
                      rw [Hid, hg.out, hd.out]; exact spagesGo_no (.inr (.inr ⟨rfl, hin⟩))
                     clear m0 hg hd hin
                     go_wp2
                     go_ret
                     exact ⟨ret_bool (by rw [hfin.out, hno.out, Bool.and_false]), hB1⟩
                   · have m0' : w1.cell? ⟨w.heap.size, n, none⟩ = some (.bool false) := by rw [m0]; simp [hin]
                     have hM5 := hM1.put hn
                     have hB5 : Below w.heap.size w (w1.setCell ⟨w.heap.size, n, none⟩ (.bool true)) := hB1.setCell (p := ⟨w.heap.size, n, none⟩) (Nat.le_refl _) _
                     have HPOS5 : Hid (∀ x ∈ (n : Int) :: seen, 1 ≤ x) := by intro x hx; rcases List.mem_cons.1 hx with rfl | hx; exact hn1; exact HPOS.out x hx
                     have hstep : Hid (sblocksGo [] f = spagesGo ((n : Int) :: seen) (match (m + 1) + 1 with | 0 => false | m + 1 => (Ps.getD m ⟨0, rc0⟩).state == 0) (fun s => sblocksGo s (f.drop (k + 1))) (Ps.drop ((m + 1) + 1))) := by
                      rw [Hid, hg.out, hd.out, spagesGo_put HPO.out (fun h => absurd (by simpa using h) HPC.out) rfl hin]; exact hnext.out _
                     clear m0 hg hd hM1 hin
                     go_wp2
                     go_region
                     go_wp2
                     go_roundw
                     case rel => exact ⟨(m + 1) + 1, _, by omega, by go_num, hB5.drew, by simpa using hsz1, hM5, HPOS5, hstep⟩
                     case measure => simp [intOf]; omega
             · have hn0 : n = 0 := by have := hsn hst1; omega
               subst hn0
               have hns : ¬ ((0 : Nat) : Int) ∈ seen := fun h => by have := HPOS.out _ h; omega
               have hM5 := hM1.same (by omega) hns
               have hB5 : Below w.heap.size w (w1.setCell ⟨w.heap.size, 0, none⟩ (.bool false)) := hB1.setCell (p := ⟨w.heap.size, 0, none⟩) (Nat.le_refl _) _
               have m0' : w1.cell? ⟨w.heap.size, 0, none⟩ = some (.bool false) := by rw [m0]; simpa using hns
               clear m0 hs1 hsn
               have hq1 : (st == 1) = false := by simpa using hst1
               by_cases hst0 : st = 0
               · subst hst0
                 have hstep : Hid (sblocksGo [] f = spagesGo seen (match j + 1 with | 0 => false | m + 1 => (Ps.getD m ⟨0, rc0⟩).state == 0) (fun s => sblocksGo s (f.drop (k + 1))) (Ps.drop (j + 1))) := by
                  rw [Hid, hg.out, hd.out, spagesGo_step hpo (fun _ => rfl) hst1]; exact hnext.out seen
                 clear hg hd hM1
                 go_wp2
                 all_goals
                  go_region
                  go_wp2
                  go_roundw
                  case rel => exact ⟨j + 1, seen, by omega, by go_num, hB5.drew, by simpa using hsz1, hM5, HPOS, hstep⟩
                  case measure => simp [intOf]; omega
               · have h2 : st = 2 := by omega
                 subst h2
                 rcases j with _ | m
                 · -- the first page
                   have hj0 : ¬ (0 < ((0 : Nat) : Int)) := by omega
                   have hstep : Hid (sblocksGo [] f = spagesGo seen (match 0 + 1 with | 0 => false | m + 1 => (Ps.getD m ⟨0, rc0⟩).state == 0) (fun s => sblocksGo s (f.drop (k + 1))) (Ps.drop (0 + 1))) := by
                    rw [Hid, hg.out, hd.out, spagesGo_step hpo (fun h => by cases h) (by simp)]; exact hnext.out seen
                   clear hg hd hM1
                   go_wp2
                   go_region
                   go_wp2
                   go_roundw
                   case rel => exact ⟨0 + 1, seen, by omega, by go_num, hB5.drew, by simpa using hsz1, hM5, HPOS, hstep⟩
                   case measure => simp [intOf]
                 · obtain ⟨q, hq⟩ := get_some (l := Ps) (k := m) (by have := HL.out; omega)
                   have hgq : (Ps.getD m ⟨0, rc0⟩) = q := by rw [List.getD_eq_getElem?_getD, hq]; rfl
                   obtain ⟨q0, _, _, _, _⟩ := hR1.pg hq
                   have hjm : (0 : Int) < ((m + 1 : Nat) : Int) := by omega
                   have hm1 : (m : Int) < 4 := by omega
                   by_cases hq0 : q.state = 0
                   · have hno : Hid (sblocksGo [] f = false) := by
                      rw [Hid, hg.out, hd.out]; exact spagesGo_no (.inr (.inl ⟨by simp only [hgq, hq0]; rfl, by simp⟩))
                     rw [hq0] at q0
                     clear hq hgq hq0 hg hd
                     go_wp2
                     go_ret
                     exact ⟨ret_bool (by rw [hfin.out, hno.out, Bool.and_false]), hB1⟩
                   · have hq0' : (q.state == 0) = false := by simpa using hq0
                     have hpcf : (Ps.getD m ⟨0, rc0⟩).state = 0 → False := by rw [hgq]; exact hq0
                     have HPC := Lib.hid hpcf
                     clear hpcf hgq hq
                     have hstep : Hid (sblocksGo [] f = spagesGo seen (match m + 1 + 1 with | 0 => false | m + 1 => (Ps.getD m ⟨0, rc0⟩).state == 0) (fun s => sblocksGo s (f.drop (k + 1))) (Ps.drop (m + 1 + 1))) := by
                      rw [Hid, hg.out, hd.out, spagesGo_step hpo (fun h => absurd (by simpa using h) HPC.out) (by simp)]; exact hnext.out seen
                     clear hg hd hM1
                     go_wp2
                     go_region
                     go_wp2
                     go_roundw
                     case rel => exact ⟨m + 1 + 1, seen, by omega, by go_num, hB5.drew, by simpa using hsz1, hM5, HPOS, hstep⟩
                     case measure => simp [intOf]; omega
           · have ho : pageOk ⟨st, ⟨kd, sq, ad, vl⟩⟩ = false := by simpa using hpo
             go_wp2_with fail
             refine (spec_l2Page ⟨st, ⟨kd, sq, ad, vl⟩⟩ _).mono ?_
             rintro e w1 ⟨rfl, hb1⟩
             rw [ho]
             go_wp2
             go_ret
             exact ⟨ret_bool (by rw [hfin.out, hg.out, hd.out, spagesGo, if_pos (.inl ho), Bool.and_false]), (hb.alloc hb.size _).trans (hb1.mono (by have := hb.size; simp; omega))⟩
         · obtain rfl : j = 4 := by omega
           have hstep : Hid (sblocksGo [] f = sblocksGo seen (f.drop (k + 1))) := by rw [Hid, hg.out, show Ps.drop 4 = [] from List.drop_of_length_le (by have := HL.out; omega)]; rfl
           clear hg
           go_wp2
           go_roundw
           case rel => exact ⟨k + 1, seen, by omega, by go_num, hb, hsz, hM, HPOS.out, hstep⟩
           case measure => simp [intOf]; omega
      · have hdw : (decide (0 ≤ wn) && decide (wn ≤ 200)) = false := by simp; omega
        have HW := Lib.hid hwn
        rw [hl4] at c0
        have HL := Lib.hid hl4
        clear hl4 hwn
        go_wp2_with (go_at_call 36; refine (spec_l6In _ _ _ _).mono ?_; rintro e w' ⟨rfl, rfl⟩; rw [hdw])
        go_ret
        exact ⟨ret_bool (by rw [hfin.out, hg.out, hd.out, sblocksGo, if_pos (by have := HW.out; simp only; omega), Bool.and_false]), hb⟩
    · go_wp2
      go_ret
      exact ⟨ret_bool (by rw [hfin.out, hg.out, hd.out, sblocksGo, if_pos (.inl hl4), Bool.and_false]), hb⟩
  · obtain rfl : k = f.length := by omega
    go_wp2
    go_ret
    refine ⟨ret_bool ?_, hb⟩
    rw [hfin.out, hg.out, List.drop_of_length_le (Nat.le_refl _)]
    unfold sblocksGo
    rw [Bool.and_true, Bool.eq_iff_iff]
    simp
    omega
end Go.Proofs.Ytclnogfmmekooaa
namespace Go.Proofs.Ytclnogfmmekooaa
set_option linter.unusedVariables false
set_option linter.unusedSimpArgs false
open Go.RowKit Go.Maps
set_option maxHeartbeats 400000
theorem Try.info3_page : (Try.prog.info? 42).map (fun i => (i.zero, i.size, i.bytes)) = some (some (.agg #[.int .i64 0, .int .i64 0, .int .i64 0, .int .i64 0, .int .i64 0]), 5, 40) := by kernel_rfl
theorem Try.info3_block : (Try.prog.info? 35).map (fun i => (i.zero, i.size, i.bytes)) = some (some (.agg #[.slice none 0 0, .int .i64 0]), 2, 32) := by kernel_rfl
/-- a flash that is being built by append: k blocks so far -/
structure Bld (B : Nat) (w : World) (g k c : Nat) (f : List Bk) (ks : List (Option Addr × Nat)) : Prop where
 own : w.ownsRow B 35 2 (.slice (some ⟨g, 0, none⟩) k c) k (hdrs f ks)
 bks : Bks w (some ⟨g, 0, none⟩) f ks
 apt : Apt B w.heap.size (some ⟨g, 0, none⟩) ks
theorem Apt.snoc {lo hi hi' g g' : Nat} {hs : List (Option Addr × Nat)} {x : Option Addr × Nat} (h : Apt lo hi (some ⟨g, 0, none⟩) hs) (hg : g' = g ∨ hi ≤ g') (hg' : g' < hi') (hx : ∀ b, blk x.1 b → hi ≤ b ∧ b < hi' ∧ b ≠ g') (hlh : lo ≤ hi) (hh : hi ≤ hi') : Apt lo hi' (some ⟨g', 0, none⟩) (hs ++ [x]) := by
 have hgl := h.top g (by rw [blk_some])
 have key : ∀ (j : Nat) (y : Option Addr × Nat), (hs ++ [x])[j]? = some y → (j = hs.length ∧ y = x) ∨ (j < hs.length ∧ hs[j]? = some y) := fun j y hy => by
  by_cases hj : j < hs.length
  · rw [List.getElem?_append_left hj] at hy; exact .inr ⟨hj, hy⟩
  · rw [List.getElem?_append_right (by omega)] at hy
    have hl := (List.getElem?_eq_some_iff.1 hy).1
    simp at hl
    have e : j = hs.length := by omega
    subst e
    simp at hy
    exact .inl ⟨rfl, hy.symm⟩
 refine ⟨fun b hb => by rw [blk_some] at hb; omega, fun j y b hy hb => ?_, fun j m y z b hy hz hb hc => ?_⟩
 · rcases key j y hy with ⟨_, ey⟩ | ⟨_, hy'⟩
   · have := hx b (ey ▸ hb); exact ⟨by omega, by omega, by rw [blk_some]; omega⟩
   · have := h.in_ j y b hy' hb
     rw [blk_some] at this
     exact ⟨by omega, by omega, by rw [blk_some]; omega⟩
 · rcases key j y hy with ⟨ej, ey⟩ | ⟨_, hy'⟩ <;> rcases key m z hz with ⟨em, ez⟩ | ⟨_, hz'⟩
   · omega
   · have h1 := hx b (ey ▸ hb); have h2 := h.in_ m z b hz' hc; omega
   · have h1 := hx b (ez ▸ hc); have h2 := h.in_ j y b hy' hb; omega
   · exact h.two j m y z b hy' hz' hb hc
theorem Bks.snoc {w w' : World} {g g' : Nat} {f : List Bk} {hs : List (Option Addr × Nat)} {b : Bk} {x : Option Addr × Nat} (h : Bks w (some ⟨g, 0, none⟩) f hs) (hk : ∀ (i : Nat) (y : Option Addr × Nat), hs[i]? = some y → ∀ c, blk y.1 c → c < w.heap.size → w'.heap[c]? = w.heap[c]?)
 (hr : Row w' (some ⟨g', 0, none⟩) (hdrs f hs ++ [.slice x.1 b.pages.length x.2, .int .i64 b.worn])) (hp : Row w' x.1 (pgs b.pages)) (hc : b.pages.length ≤ x.2) : Bks w' (some ⟨g', 0, none⟩) (f ++ [b]) (hs ++ [x]) := by
 refine ⟨by simp [h.len], by rw [hdrs_append f [b] hs [x] h.len]; exact hr, fun i c y hc' hy => ?_⟩
 have hl := h.len
 by_cases hi : i < f.length
 · rw [List.getElem?_append_left hi] at hc'
   rw [List.getElem?_append_left (by omega)] at hy
   obtain ⟨h1, h2⟩ := h.pg i c y hc' hy
   exact ⟨h1.keep (hk i y hy), h2⟩
 · rw [List.getElem?_append_right (by omega)] at hc'
   rw [List.getElem?_append_right (by omega)] at hy
   have hl' := (List.getElem?_eq_some_iff.1 hc').1
   simp at hl'
   have e : i = f.length := by omega
   subst e
   simp at hc'
   rw [hl] at hy
   simp at hy
   subst hc'; subst hy
   exact ⟨hp, hc⟩
/-- a block more: its pages lie at g1, the headers at g2 -/
theorem Bld.step {B : Nat} {wr w1 w2 : World} {g k c g1 c1 g2 c2 n : Nat} {f : List Bk} {ks : List (Option Addr × Nat)} {b : Bk} {o : Obj} (h : Bld B wr g k c f ks) (hn : b.pages.length = n) (hB : B ≤ wr.heap.size)
 (h1 : Row w1 (some ⟨g1, 0, none⟩) (pgs b.pages)) (hc1 : n ≤ c1) (hg1 : wr.heap.size ≤ g1) (hl1 : g1 < w1.heap.size) (hb1 : Below wr.heap.size wr w1)
 (hown : w2.ownsRow B 35 2 (.slice (some ⟨g2, 0, none⟩) (k + 1) c2) (k + 1) (hdrs f ks ++ [.slice (some ⟨g1, 0, none⟩) n c1, .int .i64 b.worn])) (hgr : (w1.alloc o).grownBy w2 (some g)) (hg2 : some g = some g2 ∨ g2 = w1.heap.size + 1) (hl2 : g2 < w2.heap.size) :
 Bld B w2 g2 (k + 1) c2 (f ++ [b]) (ks ++ [(some ⟨g1, 0, none⟩, c1)]) := by
 have hgl := h.apt.top g (by rw [blk_some])
 have hs1 := hb1.size
 have hs2 := hgr.size
 rw [World.size_alloc] at hs2
 have hkeep : ∀ i, i < w1.heap.size → i ≠ g → w2.heap[i]? = w1.heap[i]? := fun i hi hne => (hgr.block i (by rw [World.size_alloc]; omega) (by intro e; cases e; exact hne rfl)).trans (Below.heap_alloc w1 o i hi)
 refine ⟨by rw [hdrs_append _ _ _ _ h.bks.len]; simp only [hdrs, hn]; exact hown, ?_, ?_⟩
 · refine h.bks.snoc (fun i y hy d hd hl => ?_) (by rw [hn]; exact Row.of_own hown) (h1.keep fun d hd _ => hkeep d ?_ ?_) (by rw [hn]; exact hc1)
   · have h3 := h.apt.in_ i y d hy hd
     rw [blk_some] at h3
     rw [hkeep d (by omega) (by omega)]
     exact hb1.block d hl
   · rw [blk_some] at hd; omega
   · rw [blk_some] at hd; omega
 · refine h.apt.snoc (hi' := w2.heap.size) ?_ hl2 (fun d hd => ?_) hB (by omega)
   · rcases hg2 with e | e
     · cases e; exact .inl rfl
     · exact .inr (by omega)
   · rw [blk_some] at hd
     refine ⟨by omega, by omega, ?_⟩
     rcases hg2 with e | e
     · cases e; omega
     · omega
end Go.Proofs.Ytclnogfmmekooaa
namespace Go.Proofs.Ytclnogfmmekooaa
set_option linter.unusedVariables false
set_option linter.unusedSimpArgs false
open Go.RowKit Go.Maps
set_option maxHeartbeats 400000
end Go.Proofs.Ytclnogfmmekooaa
namespace Go.Proofs.Ytclnogfmmekooaa
set_option linter.unusedVariables false
set_option linter.unusedSimpArgs false
def dirty (f : List Bk) (a : Int) : Bool := decide (0 < (last f a).seq) && decide ((last f a).kind = 1)
def readV (s : St) (a : Int) : Int := if 0 < (last s.flash a).seq then (last s.flash a).val else s.disk.getD (a - 1).toNat 0
def told (f : List Bk) (p : Pg) : Bool := live f p && decide (p.rc.kind = 1)
def tellP (p : Pg) : Sp := ⟨1, p.rc.addr, p.rc.val, 0, rc0⟩
def tells (f : List Bk) (ps : List Pg) : List Sp := (ps.filter (told f)).map tellP
/-- steps that make room, the block, and whether there is any -/
def room (f : List Bk) : List Sp × Int × Bool :=
 if (openB f).2 then ([], (openB f).1, true)
 else (tells f (f.getD (old f) zbk).pages ++ [⟨2, 0, 0, old f, rc0⟩], old f, decide ((f.getD (old f) zbk).worn < 200))
def wr (f : List Bk) (kind addr val : Int) : List Sp :=
 if (room f).2.2 = false ∨ recOk ⟨kind, next f, addr, val⟩ = false then [] else (room f).1 ++ [⟨3, 0, 0, (room f).2.1, ⟨kind, next f, addr, val⟩⟩]
def flush (s : St) (a : Int) : List Sp :=
 if addrB a = false ∨ dirty s.flash a = false then [] else
 if wr s.flash 2 a (readV s a) = [] then [] else ⟨1, a, readV s a, 0, rc0⟩ :: wr s.flash 2 a (readV s a)
def fill (s : St) (a : Int) : List Sp :=
 if addrB a = false ∨ 0 < (last s.flash a).seq then [] else wr s.flash 2 a (s.disk.getD (a - 1).toNat 0)
end Go.Proofs.Ytclnogfmmekooaa
namespace Go.Proofs.Ytclnogfmmekooaa
set_option linter.unusedVariables false
set_option linter.unusedSimpArgs false
open Go.RowKit Go.Maps
set_option maxHeartbeats 400000
end Go.Proofs.Ytclnogfmmekooaa
namespace Go.Proofs.Ytclnogfmmekooaa
set_option linter.unusedVariables false
set_option linter.unusedSimpArgs false
open Go.RowKit Go.Maps
set_option maxHeartbeats 400000
/-- a row of steps of one's own, in a block from base on -/
def OwnS (w : World) (base : Nat) (v : Value) (xs : List Sp) : Prop := w.ownsRow base 156 8 v xs.length (sps xs)
theorem ownsRow_keep {w w' : World} {base : Nat} {e : TypeId} {size n : Nat} {v : Value} {xs : List Value} (h : w.ownsRow base e size v n xs) (hk : ∀ b, v.ownBlock = some b → b < w.heap.size → w'.heap[b]? = w.heap[b]?) : w'.ownsRow base e size v n xs := by
 refine ⟨h.1, ?_⟩
 rcases h.2 with hn | ⟨g, cap, cur, hv, hb, hg, rest⟩
 · exact .inl hn
 · have hl : g < w.heap.size := by
    rcases Nat.lt_or_ge g w.heap.size with hl | hl
    · exact hl
    · rw [Array.getElem?_eq_none hl] at hg; cases hg
   exact .inr ⟨g, cap, cur, hv, hb, by rw [hk g (by rw [hv]; rfl) hl]; exact hg, rest⟩
theorem OwnS.below {w w' : World} {base B : Nat} {v : Value} {xs : List Sp} (h : OwnS w base v xs) (hb : Below B w w') (hB : w.heap.size ≤ B) : OwnS w' base v xs := ownsRow_keep h fun b _ hl => hb.block b (by omega)
theorem OwnS.agr {w w' : World} {base : Nat} {v : Value} {xs : List Sp} {S : Nat → Prop} (h : OwnS w base v xs) (hb : Agr S w w') (hS : ∀ b, base ≤ b → ¬ S b) : OwnS w' base v xs := by
 refine ownsRow_keep h fun b hbl hl => hb.block b hl (hS b ?_)
 exact (World.ownsRow.lt h b hbl).1
theorem OwnS.mono {w : World} {base base' : Nat} {v : Value} {xs : List Sp} (h : OwnS w base v xs) (hb : base' ≤ base) : OwnS w base' v xs := World.ownsRow.mono h hb
theorem OwnS.nil (w : World) (base : Nat) (hb : base ≤ w.heap.size) : OwnS (w.alloc (.cells #[] 156)) base (.slice (some ⟨w.heap.size, 0, none⟩) 0 0) [] := World.ownsRow_lit w #[] 0 hb (by unfold maxLen; omega) rfl
theorem OwnS.shape {w : World} {base : Nat} {v : Value} {xs : List Sp} (h : OwnS w base v xs) : ∃ A c, v = .slice A xs.length c ∧ xs.length ≤ c ∧ Row w A (sps xs) ∧ ∀ b, blk A b → base ≤ b ∧ b < w.heap.size := by
 rcases h.2 with ⟨hv, hn⟩ | ⟨g, cap, cur, hv, hb, hg, hc, rest⟩
 · exact ⟨none, 0, by rw [hv, hn], by omega, by have : xs = [] := List.length_eq_zero_iff.1 hn; subst this; exact Row.nil _ _, fun b hb => by simp [blk] at hb⟩
 · refine ⟨some ⟨g, 0, none⟩, cap, hv, hc, Row.of_own (by rw [← hv]; exact h), fun b hbb => ?_⟩
   rw [blk_some] at hbb
   subst hbb
   exact ⟨hb, (World.ownsRow.lt h g (by rw [hv]; rfl)).2⟩
theorem OwnS.snoc {w : World} {base g n c : Nat} {xs : List Sp} {x : Sp} (hn : n = xs.length + 1) (h : w.ownsRow base 156 8 (.slice (some ⟨g, 0, none⟩) (xs.length + 1) c) (xs.length + 1) (sps xs ++ x.vs)) : OwnS w base (.slice (some ⟨g, 0, none⟩) n c) (xs ++ [x]) := by
 subst hn
 unfold OwnS
 rw [List.length_append, sps, List.flatMap_append, show [x].flatMap Sp.vs = x.vs by simp]
 exact h
end Go.Proofs.Ytclnogfmmekooaa
namespace Go.Proofs.Ytclnogfmmekooaa
set_option linter.unusedVariables false
set_option linter.unusedSimpArgs false
open Go.RowKit Go.Maps
set_option maxHeartbeats 400000
end Go.Proofs.Ytclnogfmmekooaa
namespace Go.Proofs.Ytclnogfmmekooaa
set_option linter.unusedVariables false
set_option linter.unusedSimpArgs false
open Go.RowKit Go.Maps
set_option maxHeartbeats 400000
end Go.Proofs.Ytclnogfmmekooaa
namespace Go.Proofs.Ytclnogfmmekooaa
set_option linter.unusedVariables false
set_option linter.unusedSimpArgs false
open Go.RowKit Go.Maps
set_option maxHeartbeats 400000
/-- all blocks but one are alike -/
def others (f g : List Bk) (k : Int) : Prop := f.length = g.length ∧ ∀ j : Nat, (j : Int) ≠ k → f[j]? = g[j]?
end Go.Proofs.Ytclnogfmmekooaa
namespace Go.Proofs.Ytclnogfmmekooaa
set_option linter.unusedVariables false
set_option linter.unusedSimpArgs false
open Go.RowKit Go.Maps
set_option maxHeartbeats 400000
theorem laws_eqRec (r s : Rc) (w : World) : Calls Try.prog 95 #[.agg #[.int .i64 r.kind, .int .i64 r.seq, .int .i64 r.addr, .int .i64 r.val], .agg #[.int .i64 s.kind, .int .i64 s.seq, .int .i64 s.addr, .int .i64 s.val]] w fun e w' => e = .returned (.bool (decide (r = s))) ∧ Below w.heap.size w w' := by
 obtain ⟨k, q, a, v⟩ := r
 obtain ⟨k', q', a', v'⟩ := s
 dsimp only
 go_enter Try.func95, Try.ntmps95
 go_wp2
 all_goals (go_ret; exact ⟨ret_bool (by simp_all), ((Below.refl _ _).alloc (Nat.le_refl _) _).alloc (by simp) _⟩)
theorem laws_eqPage (p q : Pg) (w : World) : Calls Try.prog 85 #[.agg #[.int .i64 p.state, .int .i64 p.rc.kind, .int .i64 p.rc.seq, .int .i64 p.rc.addr, .int .i64 p.rc.val], .agg #[.int .i64 q.state, .int .i64 q.rc.kind, .int .i64 q.rc.seq, .int .i64 q.rc.addr, .int .i64 q.rc.val]] w
 fun e w' => e = .returned (.bool (decide (p = q))) ∧ Below w.heap.size w w' := by
 obtain ⟨st, r⟩ := p
 obtain ⟨st', s⟩ := q
 dsimp only
 by_cases hst : st = st'
 · subst hst
   have hq : Hid (decide ((⟨st, r⟩ : Pg) = ⟨st, s⟩) = decide (r = s)) := by unfold Hid; simp
   go_enter Try.func85, Try.ntmps85
   go_wp2_with (go_at_call 95; refine (laws_eqRec r s _).mono ?_; rintro e w1 ⟨rfl, hb⟩)
   all_goals (go_ret; exact ⟨ret_bool (by rw [hq.out]; simp_all), (((Below.refl _ _).alloc (Nat.le_refl _) _).alloc (by simp) _).trans (hb.mono (by simp; omega))⟩)
 · have hq : Hid (decide ((⟨st, r⟩ : Pg) = ⟨st', s⟩) = false) := by unfold Hid; simp [hst]
   go_enter Try.func85, Try.ntmps85
   go_wp2
   go_ret
   exact ⟨ret_bool hq.out.symm, ((Below.refl _ _).alloc (Nat.le_refl _) _).alloc (by simp) _⟩
theorem eq_drop {α : Type} [DecidableEq α] {l m : List α} {k : Nat} {x y : α} (hx : l[k]? = some x) (hy : m[k]? = some y) : decide (l.drop k = m.drop k) = (decide (x = y) && decide (l.drop (k + 1) = m.drop (k + 1))) := by
 rw [drop_cons hx, drop_cons hy, Bool.eq_iff_iff]
 simp
theorem laws_eqPageS (A A' : Option Addr) (c c' : Nat) (ps qs : List Pg) (w : World) (hl : ps.length < 1000000000000) (hl' : qs.length < 1000000000000) (hR : Row w A (pgs ps)) (hR' : Row w A' (pgs qs)) :
 Calls Try.prog 55 #[.slice A ps.length c, .slice A' qs.length c'] w fun e w' => e = .returned (.bool (decide (ps = qs))) ∧ Below w.heap.size w w' := by
 by_cases hn : ps.length = qs.length
 · have HN := Lib.hid hn
   rw [← hn]
   clear hn hl'
   go_enter Try.func55, Try.ntmps55
   go_wp2
   go_loopw [5] (fun i wr => ∃ (k : Nat), k ≤ ps.length ∧ i = .int .i64 k ∧ Below w.heap.size w wr ∧ Hid (decide (ps = qs) = decide (ps.drop k = qs.drop k))) (fun i _ => ps.length - (intOf i).toNat)
   case atStart => exact ⟨0, by omega, rfl, Below.refl _ _, by simp [Hid]⟩
   case round =>
    obtain ⟨k, hk, rfl, hb, hg⟩ := hrel
    by_cases hlt : k < ps.length
    · obtain ⟨p, hp⟩ := get_some hlt
      obtain ⟨q, hq⟩ := get_some (l := qs) (k := k) (by have := HN.out; omega)
      have hd := Lib.hid (eq_drop hp hq)
      obtain ⟨b, o, rfl⟩ := hR.addr (pgs_ne (by rintro rfl; simp at hlt))
      obtain ⟨b', o', rfl⟩ := hR'.addr (pgs_ne (by rintro rfl; simp at hq))
      have hRk := hR.below hb (Nat.le_refl _)
      have hRk' := hR'.below hb (Nat.le_refl _)
      obtain ⟨c0, c1, c2, c3, c4⟩ := hRk.pg hp
      obtain ⟨d0, d1, d2, d3, d4⟩ := hRk'.pg hq
      have hk1 : (k : Int) < ps.length := by omega
      have HP := Lib.hid hp
      have HQ := Lib.hid hq
      clear hp hq
      go_wp2
      go_region_held3 (fun w' => w'.cell? ⟨b, o + k * 5, none⟩ = some (.int .i64 p.state) ∧ w'.cell? ⟨b, o + k * 5 + 1, none⟩ = some (.int .i64 p.rc.kind) ∧ w'.cell? ⟨b, o + k * 5 + 2, none⟩ = some (.int .i64 p.rc.seq) ∧ w'.cell? ⟨b, o + k * 5 + 3, none⟩ = some (.int .i64 p.rc.addr) ∧ w'.cell? ⟨b, o + k * 5 + 4, none⟩ = some (.int .i64 p.rc.val) ∧
       w'.cell? ⟨b', o' + k * 5, none⟩ = some (.int .i64 q.state) ∧ w'.cell? ⟨b', o' + k * 5 + 1, none⟩ = some (.int .i64 q.rc.kind) ∧ w'.cell? ⟨b', o' + k * 5 + 2, none⟩ = some (.int .i64 q.rc.seq) ∧ w'.cell? ⟨b', o' + k * 5 + 3, none⟩ = some (.int .i64 q.rc.addr) ∧ w'.cell? ⟨b', o' + k * 5 + 4, none⟩ = some (.int .i64 q.rc.val))
       (first | go_keep | trivial)
       (first | (go_at_call 85; refine (laws_eqPage p q _).mono ?_; rintro e w1 ⟨rfl, hb1⟩; replace hb1 := undrew hb1; obtain ⟨e0, e1, e2, e3, e4⟩ := (hRk.below hb1 (Nat.le_refl _)).pg HP.out; obtain ⟨g0, g1, g2, g3, g4⟩ := (hRk'.below hb1 (Nat.le_refl _)).pg HQ.out))
      have hB1 := hb.trans (hb1.mono hb.size)
      go_wp2
      · have hne : (!decide (p = q)) = true := by assumption
        have hne' : decide (p = q) = false := by simpa using hne
        go_ret
        exact ⟨ret_bool (by rw [hg.out, hd.out, hne']; rfl), hB1⟩
      · have heq : (!decide (p = q)) = false := by assumption
        have heq' : decide (p = q) = true := by simpa using heq
        go_roundw
        case rel => exact ⟨k + 1, by omega, by go_num, hB1, by rw [Hid, hg.out, hd.out, heq', Bool.true_and]⟩
        case measure => simp [intOf]; omega
    · obtain rfl : k = ps.length := by omega
      go_wp2
      go_ret
      exact ⟨ret_bool (by rw [hg.out, List.drop_of_length_le (Nat.le_refl _), List.drop_of_length_le (by have := HN.out; omega)]; rfl), hb⟩
 · have hq : Hid (decide (ps = qs) = false) := by unfold Hid; simp; intro e; exact hn (by rw [e])
   go_enter Try.func55, Try.ntmps55
   go_wp2
   go_ret
   exact ⟨ret_bool hq.out.symm, Below.refl _ _⟩
theorem laws_eqBlock (a b : Bk) (A A' : Option Addr) (c c' : Nat) (w : World) (hl : a.pages.length < 1000000000000) (hl' : b.pages.length < 1000000000000) (hR : Row w A (pgs a.pages)) (hR' : Row w A' (pgs b.pages)) :
 Calls Try.prog 33 #[.agg #[.slice A a.pages.length c, .int .i64 a.worn], .agg #[.slice A' b.pages.length c', .int .i64 b.worn]] w fun e w' => e = .returned (.bool (decide (a = b))) ∧ Below w.heap.size w w' := by
 obtain ⟨ps, n⟩ := a
 obtain ⟨qs, m⟩ := b
 dsimp only at *
 have hB0 : Below w.heap.size w ((w.alloc (.cells #[.slice A ps.length c, .int .i64 n] 35)).alloc (.cells #[.slice A' qs.length c', .int .i64 m] 35)) := ((Below.refl _ _).alloc (Nat.le_refl _) _).alloc (by simp) _
 go_enter Try.func33, Try.ntmps33
 go_wp2_with fail
 refine (laws_eqPageS A A' c c' ps qs _ hl hl' ((hR.alloc _).alloc _) ((hR'.alloc _).alloc _)).mono ?_
 rintro e w1 ⟨rfl, hb1⟩
 have hB1 := hB0.trans (hb1.mono hB0.size)
 have x1 : w1.cell? ⟨w.heap.size, 1, none⟩ = some (.int .i64 n) := (hb1.cell (by simp; omega)).trans (by simp)
 have y1 : w1.cell? ⟨w.heap.size + 1, 1, none⟩ = some (.int .i64 m) := (hb1.cell (by simp)).trans (by simp)
 clear hb1 hB0
 by_cases hpq : ps = qs
 · subst hpq
   have hq : Hid (∀ x, x = decide (n = m) → decide ((⟨ps, n⟩ : Bk) = ⟨ps, m⟩) = x) := by intro x hx; rw [hx]; simp
   rw [show decide (ps = ps) = true from by simp]
   go_wp2
   all_goals (go_ret; exact ⟨ret_bool (hq.out _ (by simp_all)).symm, hB1⟩)
 · have hq : Hid (decide ((⟨ps, n⟩ : Bk) = ⟨qs, m⟩) = false) := by unfold Hid; simp [hpq]
   rw [show decide (ps = qs) = false from by simpa using hpq]
   clear hpq
   go_wp2
   go_ret
   exact ⟨ret_bool hq.out.symm, hB1⟩
set_option maxHeartbeats 1000000 in
theorem laws_eqBlockS (A A' : Option Addr) (c c' : Nat) (f g : List Bk) (w : World) (hl : f.length < 1000000000000) (hl' : g.length < 1000000000000) (hp : ∀ b ∈ f, b.pages.length < 1000000000000) (hp' : ∀ b ∈ g, b.pages.length < 1000000000000) (hF : Fl w A f) (hF' : Fl w A' g) :
 Calls Try.prog 15 #[.slice A f.length c, .slice A' g.length c'] w fun e w' => e = .returned (.bool (decide (f = g))) ∧ Below w.heap.size w w' := by
 obtain ⟨hs, hF⟩ := hF
 obtain ⟨ks, hF'⟩ := hF'
 by_cases hn : f.length = g.length
 · have HN := Lib.hid hn
   have HP := Lib.hid hp
   have HP' := Lib.hid hp'
   rw [← hn]
   clear hn hl' hp hp'
   go_enter Try.func15, Try.ntmps15
   go_wp2
   go_loopw [5] (fun i wr => ∃ (k : Nat), k ≤ f.length ∧ i = .int .i64 k ∧ Below w.heap.size w wr ∧ Hid (decide (f = g) = decide (f.drop k = g.drop k))) (fun i _ => f.length - (intOf i).toNat)
   case atStart => exact ⟨0, by omega, rfl, Below.refl _ _, by simp [Hid]⟩
   case round =>
    obtain ⟨k, hk, rfl, hb, hg⟩ := hrel
    by_cases hlt : k < f.length
    · obtain ⟨p, hp⟩ := get_some hlt
      obtain ⟨q, hq⟩ := get_some (l := g) (k := k) (by have := HN.out; omega)
      have hd := Lib.hid (eq_drop hp hq)
      have hpl := HP.out p (List.mem_of_getElem? hp)
      have hql := HP'.out q (List.mem_of_getElem? hq)
      obtain ⟨b, o, rfl⟩ := hF.addr (by rintro rfl; simp at hlt)
      obtain ⟨b', o', rfl⟩ := hF'.addr (by rintro rfl; simp at hq)
      have hFk := hF.below hb (Nat.le_refl _)
      have hFk' := hF'.below hb (Nat.le_refl _)
      obtain ⟨⟨Ap, cp⟩, _, c0, c1, _, _, hRp, _⟩ := hFk.at_ hp
      obtain ⟨⟨Aq, cq⟩, _, d0, d1, _, _, hRq, _⟩ := hFk'.at_ hq
      have hk1 : (k : Int) < f.length := by omega
      dsimp only at *
      have hbb := lt_of_cell c0
      have hbb' := lt_of_cell d0
      clear hp hq
      go_wp2
      go_region_held3 (fun w' => w'.cell? ⟨b, o + k * 2, none⟩ = some (.slice Ap p.pages.length cp) ∧ w'.cell? ⟨b, o + k * 2 + 1, none⟩ = some (.int .i64 p.worn) ∧ w'.cell? ⟨b', o' + k * 2, none⟩ = some (.slice Aq q.pages.length cq) ∧ w'.cell? ⟨b', o' + k * 2 + 1, none⟩ = some (.int .i64 q.worn))
       (first | go_keep | trivial)
       (first | (go_at_call 33; refine (laws_eqBlock p q Ap Aq cp cq _ hpl hql hRp.drew hRq.drew).mono ?_; rintro e w1 ⟨rfl, hb1⟩; replace hb1 := undrew hb1; have e0 := (hb1.cell (p := ⟨b, o + k * 2, none⟩) hbb).trans c0; have e1 := (hb1.cell (p := ⟨b, o + k * 2 + 1, none⟩) hbb).trans c1; have g0 := (hb1.cell (p := ⟨b', o' + k * 2, none⟩) hbb').trans d0; have g1 := (hb1.cell (p := ⟨b', o' + k * 2 + 1, none⟩) hbb').trans d1))
      have hB1 := hb.trans (hb1.mono hb.size)
      go_wp2
      · have hne : (!decide (p = q)) = true := by assumption
        have hne' : decide (p = q) = false := by simpa using hne
        go_ret
        exact ⟨ret_bool (by rw [hg.out, hd.out, hne']; rfl), hB1⟩
      · have heq : (!decide (p = q)) = false := by assumption
        have heq' : decide (p = q) = true := by simpa using heq
        go_roundw
        case rel => exact ⟨k + 1, by omega, by go_num, hB1, by rw [Hid, hg.out, hd.out, heq', Bool.true_and]⟩
        case measure => simp [intOf]; omega
    · obtain rfl : k = f.length := by omega
      go_wp2
      go_ret
      exact ⟨ret_bool (by rw [hg.out, List.drop_of_length_le (Nat.le_refl _), List.drop_of_length_le (by have := HN.out; omega)]; rfl), hb⟩
 · have hq : Hid (decide (f = g) = false) := by unfold Hid; simp; intro e; exact hn (by rw [e])
   go_enter Try.func15, Try.ntmps15
   go_wp2
   go_ret
   exact ⟨ret_bool hq.out.symm, Below.refl _ _⟩
end Go.Proofs.Ytclnogfmmekooaa
namespace Go.Proofs.Ytclnogfmmekooaa
set_option linter.unusedVariables false
set_option linter.unusedSimpArgs false
open Go.RowKit Go.Maps
set_option maxHeartbeats 400000
end Go.Proofs.Ytclnogfmmekooaa
namespace Go.Proofs.Ytclnogfmmekooaa
set_option linter.unusedVariables false
set_option linter.unusedSimpArgs false
open Go.RowKit Go.Maps
set_option maxHeartbeats 400000
theorem OFl.far {w w' : World} {lo hi lo' hi' : Nat} {A : Option Addr} {f : List Bk} (h : OFl w lo hi A f) (ha : Agr (fun b => lo' ≤ b ∧ b < hi') w w') (hd : hi ≤ lo' ∨ hi' ≤ lo) : OFl w' lo hi A f :=
 h.agr ha fun b h1 h2 h3 => by omega
end Go.Proofs.Ytclnogfmmekooaa
namespace Go.Proofs.Ytclnogfmmekooaa
set_option linter.unusedVariables false
set_option linter.unusedSimpArgs false
open Go.RowKit Go.Maps
set_option maxHeartbeats 400000
/-- a store of one's own: a flash and a row of numbers, in blocks from lo on and below hi -/
def OSt (w : World) (lo hi : Nat) (A : Option Addr) (f : List Bk) (D : Option Addr) (xs : List Int) : Prop :=
 ∃ hs, Bks w A f hs ∧ Apt lo hi A hs ∧ Row w D (ints xs) ∧ ∀ b, blk D b → lo ≤ b ∧ b < hi ∧ ¬ blk A b ∧ ∀ (i : Nat) (x : Option Addr × Nat), hs[i]? = some x → ¬ blk x.1 b
theorem OSt.keep {w w' : World} {lo hi : Nat} {A D : Option Addr} {f : List Bk} {xs : List Int} (h : OSt w lo hi A f D xs) (hk : ∀ b, lo ≤ b → b < hi → b < w.heap.size → w'.heap[b]? = w.heap[b]?) : OSt w' lo hi A f D xs := by
 obtain ⟨hs, h1, h2, h3, h4⟩ := h
 refine ⟨hs, h1.keep fun b hb hl => ?_, h2, h3.keep fun b hb hl => hk b (h4 b hb).1 (h4 b hb).2.1 hl, h4⟩
 rcases hb with hb | ⟨x, hx, hb⟩
 · have := h2.top b hb; exact hk b this.1 this.2 hl
 · obtain ⟨i, hi'⟩ := List.getElem?_of_mem hx
   have := h2.in_ i x b hi' hb; exact hk b this.1 this.2.1 hl
theorem OSt.below {w w' : World} {lo hi B : Nat} {A D : Option Addr} {f : List Bk} {xs : List Int} (h : OSt w lo hi A f D xs) (hb : Below B w w') (hB : w.heap.size ≤ B) : OSt w' lo hi A f D xs := h.keep fun b _ _ hl => hb.block b (by omega)
theorem OSt.far {w w' : World} {lo hi lo' hi' : Nat} {A D : Option Addr} {f : List Bk} {xs : List Int} (h : OSt w lo hi A f D xs) (ha : Agr (fun b => lo' ≤ b ∧ b < hi') w w') (hd : hi ≤ lo' ∨ hi' ≤ lo) : OSt w' lo hi A f D xs :=
 h.keep fun b h1 h2 hl => ha.block b hl (by omega)
theorem OSt.disk {w : World} {lo hi : Nat} {A D : Option Addr} {f : List Bk} {xs : List Int} (h : OSt w lo hi A f D xs) : Row w D (ints xs) := by obtain ⟨hs, _, _, h3, _⟩ := h; exact h3
theorem OSt.mono {w : World} {lo hi lo' hi' : Nat} {A D : Option Addr} {f : List Bk} {xs : List Int} (h : OSt w lo hi A f D xs) (h1 : lo' ≤ lo) (h2 : hi ≤ hi') : OSt w lo' hi' A f D xs := by
 obtain ⟨hs, a, b, c, d⟩ := h
 exact ⟨hs, a, b.mono h1 h2, c, fun x hx => by have := d x hx; exact ⟨by omega, by omega, this.2.2⟩⟩
end Go.Proofs.Ytclnogfmmekooaa
namespace Go.Proofs.Ytclnogfmmekooaa
set_option linter.unusedVariables false
set_option linter.unusedSimpArgs false
open Go.RowKit Go.Maps
set_option maxHeartbeats 400000
end Go.Proofs.Ytclnogfmmekooaa
namespace Go.Proofs.Ytclnogfmmekooaa
set_option linter.unusedVariables false
set_option linter.unusedSimpArgs false
open Go.RowKit Go.Maps
set_option maxHeartbeats 400000
end Go.Proofs.Ytclnogfmmekooaa
namespace Go.Proofs.Ytclnogfmmekooaa
set_option linter.unusedVariables false
set_option linter.unusedSimpArgs false
end Go.Proofs.Ytclnogfmmekooaa
namespace Go.Proofs.Ytclnogfmmekooaa
set_option linter.unusedVariables false
set_option linter.unusedSimpArgs false
open Go.RowKit Go.Maps
set_option maxHeartbeats 400000
theorem Row.sp {w : World} {b o k : Nat} {xs : List Sp} {x : Sp} (h : Row w (some ⟨b, o, none⟩) (sps xs)) (hk : xs[k]? = some x) :
 w.cell? ⟨b, o + k * 8, none⟩ = some (.int .i64 x.kind) ∧ w.cell? ⟨b, o + k * 8 + 1, none⟩ = some (.int .i64 x.addr) ∧ w.cell? ⟨b, o + k * 8 + 2, none⟩ = some (.int .i64 x.val) ∧ w.cell? ⟨b, o + k * 8 + 3, none⟩ = some (.int .i64 x.block) ∧
 w.cell? ⟨b, o + k * 8 + 4, none⟩ = some (.int .i64 x.rc.kind) ∧ w.cell? ⟨b, o + k * 8 + 5, none⟩ = some (.int .i64 x.rc.seq) ∧ w.cell? ⟨b, o + k * 8 + 6, none⟩ = some (.int .i64 x.rc.addr) ∧ w.cell? ⟨b, o + k * 8 + 7, none⟩ = some (.int .i64 x.rc.val) := by
 have hlt := (List.getElem?_eq_some_iff.1 hk).1
 obtain ⟨b', o', he, hc⟩ := h (by intro e; have := sps_len xs; rw [e] at this; simp at this; omega)
 cases he
 have hg : ∀ j u, x.vs[j]? = some u → j < 8 → w.cell? ⟨b, o + (k * 8 + j), none⟩ = some u := fun j u hj hl => (hc (k * 8 + j) u (by rw [sps, flat_get _ 8 (fun _ => rfl) xs k j x hk hl]; exact hj)).1
 exact ⟨hg 0 _ rfl (by omega), hg 1 _ rfl (by omega), hg 2 _ rfl (by omega), hg 3 _ rfl (by omega), hg 4 _ rfl (by omega), hg 5 _ rfl (by omega), hg 6 _ rfl (by omega), hg 7 _ rfl (by omega)⟩
theorem OSt.drew {w : World} {lo hi : Nat} {A D : Option Addr} {f : List Bk} {xs : List Int} (h : OSt w lo hi A f D xs) : OSt w.drew lo hi A f D xs := h.keep fun _ _ _ _ => rfl
end Go.Proofs.Ytclnogfmmekooaa
namespace Go.Proofs.Ytclnogfmmekooaa
set_option linter.unusedVariables false
set_option linter.unusedSimpArgs false
open Go.RowKit Go.Maps
set_option maxHeartbeats 400000
end Go.Proofs.Ytclnogfmmekooaa
namespace Go.Proofs.Ytclnogfmmekooaa
set_option linter.unusedVariables false
set_option linter.unusedSimpArgs false
open Go.RowKit Go.Maps
set_option maxHeartbeats 400000
end Go.Proofs.Ytclnogfmmekooaa
namespace Go.Proofs.Ytclnogfmmekooaa
set_option linter.unusedVariables false
set_option linter.unusedSimpArgs false
open Go.RowKit Go.Maps
set_option maxHeartbeats 400000
def sm (x : Int) : Prop := -1 ≤ x ∧ x ≤ 1000
end Go.Proofs.Ytclnogfmmekooaa
namespace Go.Proofs.Ytclnogfmmekooaa
set_option linter.unusedVariables false
set_option linter.unusedSimpArgs false
open Go.RowKit Go.Maps
set_option maxHeartbeats 400000
end Go.Proofs.Ytclnogfmmekooaa
namespace Go.Proofs.Ytclnogfmmekooaa
set_option linter.unusedVariables false
set_option linter.unusedSimpArgs false
open Go.RowKit Go.Maps
set_option maxHeartbeats 400000
/-- a row of events of one's own, in a block from base on -/
def OwnE (w : World) (base : Nat) (v : Value) (xs : List Ev) : Prop := w.ownsRow base 134 5 v xs.length (evs xs)
theorem OwnE.below {w w' : World} {base B : Nat} {v : Value} {xs : List Ev} (h : OwnE w base v xs) (hb : Below B w w') (hB : w.heap.size ≤ B) : OwnE w' base v xs := ownsRow_keep h fun b _ hl => hb.block b (by omega)
theorem OwnE.agr {w w' : World} {base : Nat} {v : Value} {xs : List Ev} {S : Nat → Prop} (h : OwnE w base v xs) (hb : Agr S w w') (hS : ∀ b, base ≤ b → ¬ S b) : OwnE w' base v xs := by
 refine ownsRow_keep h fun b hbl hl => hb.block b hl (hS b ?_)
 exact (World.ownsRow.lt h b hbl).1
theorem OwnE.mono {w : World} {base base' : Nat} {v : Value} {xs : List Ev} (h : OwnE w base v xs) (hb : base' ≤ base) : OwnE w base' v xs := World.ownsRow.mono h hb
theorem OwnE.nil (w : World) (base : Nat) (hb : base ≤ w.heap.size) : OwnE (w.alloc (.cells #[] 134)) base (.slice (some ⟨w.heap.size, 0, none⟩) 0 0) [] := World.ownsRow_lit w #[] 0 hb (by unfold maxLen; omega) rfl
theorem OwnE.snoc {w : World} {base g n c : Nat} {xs : List Ev} {x : Ev} (hn : n = xs.length + 1) (h : w.ownsRow base 134 5 (.slice (some ⟨g, 0, none⟩) (xs.length + 1) c) (xs.length + 1) (evs xs ++ x.vs)) : OwnE w base (.slice (some ⟨g, 0, none⟩) n c) (xs ++ [x]) := by
 subst hn
 unfold OwnE
 rw [List.length_append, evs, List.flatMap_append, show [x].flatMap Ev.vs = x.vs by simp]
 exact h
theorem OwnE.alloc {w : World} {base : Nat} {v : Value} {xs : List Ev} (h : OwnE w base v xs) (o : Obj) : OwnE (w.alloc o) base v xs := h.below (B := w.heap.size) ((Below.refl _ _).alloc (Nat.le_refl _) _) (Nat.le_refl _)
end Go.Proofs.Ytclnogfmmekooaa
namespace Go.Proofs.Ytclnogfmmekooaa
set_option linter.unusedVariables false
set_option linter.unusedSimpArgs false
open Go.RowKit Go.Maps
set_option maxHeartbeats 400000
theorem Row.drop {w : World} {b o : Nat} {vs : List Value} (h : Row w (some ⟨b, o, none⟩) vs) (k : Nat) : Row w (some ⟨b, o + k, none⟩) (vs.drop k) := fun hn => by
 obtain ⟨b', o', he, hc⟩ := h (by rintro rfl; simp at hn)
 cases he
 refine ⟨b, o + k, rfl, fun j u hj => ?_⟩
 rw [List.getElem?_drop] at hj
 have := hc (k + j) u hj
 rwa [← Nat.add_assoc] at this
theorem Bks.tail {w : World} {g o : Nat} {b : Bk} {f : List Bk} {x : Option Addr × Nat} {hs : List (Option Addr × Nat)} (h : Bks w (some ⟨g, o, none⟩) (b :: f) (x :: hs)) : Bks w (some ⟨g, o + 2, none⟩) f hs :=
 ⟨by simpa using h.len, by have := h.row.drop 2; simpa [hdrs] using this, fun i c y hc hy => h.pg (i + 1) c y (by simpa using hc) (by simpa using hy)⟩
theorem Apt.tail {lo hi g o o' : Nat} {x : Option Addr × Nat} {hs : List (Option Addr × Nat)} (h : Apt lo hi (some ⟨g, o, none⟩) (x :: hs)) : Apt lo hi (some ⟨g, o', none⟩) hs :=
 ⟨fun b hb => h.top b (by rw [blk_some] at hb ⊢; exact hb), fun i y b hy hb => by
  have := h.in_ (i + 1) y b (by simpa using hy) hb
  exact ⟨this.1, this.2.1, fun e => this.2.2 (by rw [blk_some] at e ⊢; exact e)⟩, fun i j y z b hy hz h1 h2 => by
  have := h.two (i + 1) (j + 1) y z b (by simpa using hy) (by simpa using hz) h1 h2
  omega⟩
/-- block i's pages lie in the same block of memory as before -/
theorem Apt.same {lo hi i : Nat} {A : Option Addr} {hs : List (Option Addr × Nat)} {x y : Option Addr × Nat} (h : Apt lo hi A hs) (hy : hs[i]? = some y) (hx : ∀ b, blk x.1 b → blk y.1 b) : Apt lo hi A (hs.set i x) := by
 have hl := (List.getElem?_eq_some_iff.1 hy).1
 have key : ∀ (j : Nat) (z : Option Addr × Nat) (b : Nat), (hs.set i x)[j]? = some z → blk z.1 b → ∃ z', hs[j]? = some z' ∧ blk z'.1 b := fun j z b hz hb => by
  by_cases hj : j = i
  · subst hj
    rw [List.getElem?_set_self hl] at hz
    cases hz
    exact ⟨y, hy, hx b hb⟩
  · rw [List.getElem?_set_ne (by omega)] at hz
    exact ⟨z, hz, hb⟩
 refine ⟨h.top, fun j z b hz hb => ?_, fun j m z u b hz hu h1 h2 => ?_⟩
 · obtain ⟨z', a1, a2⟩ := key j z b hz hb
   exact h.in_ j z' b a1 a2
 · obtain ⟨z', a1, a2⟩ := key j z b hz h1
   obtain ⟨u', b1, b2⟩ := key m u b hu h2
   exact h.two j m z' u' b a1 b1 a2 b2
theorem Bks.reader {w w' : World} {A : Option Addr} {f : List Bk} {hs : List (Option Addr × Nat)} {R lo hi : Nat} (h : Bks w A f hs) (ha : Agr (· = R) w w') (hApt : Apt lo hi A hs) (hR : R < lo) : Bks w' A f hs :=
 h.keep fun b hb hl => ha.block b hl (fun e => by
  subst e
  rcases hb with hb | ⟨x, hx, hb⟩
  · have := hApt.top _ hb; omega
  · obtain ⟨i, hi'⟩ := List.getElem?_of_mem hx
    have := hApt.in_ i x _ hi' hb; omega)
/-- block k of a flash of four blocks of four pages -/
theorem Bks.pick {w : World} {g o k : Nat} {f : List Bk} {hs : List (Option Addr × Nat)} (h : Bks w (some ⟨g, o, none⟩) f hs) (hl : f.length = 4) (hp : ∀ b ∈ f, b.pages.length = 4) (hk : k < 4) :
 ∃ b pb po cap, f[k]? = some b ∧ hs[k]? = some (some ⟨pb, po, none⟩, cap) ∧ b.pages.length = 4 ∧ 4 ≤ cap ∧ w.cell? ⟨g, o + k * 2, none⟩ = some (.slice (some ⟨pb, po, none⟩) 4 cap) ∧ w.cell? ⟨g, o + k * 2 + 1, none⟩ = some (.int .i64 b.worn) ∧
   w.frozen? ⟨g, o + k * 2, none⟩ = false ∧ w.frozen? ⟨g, o + k * 2 + 1, none⟩ = false ∧ Row w (some ⟨pb, po, none⟩) (pgs b.pages) := by
 obtain ⟨b, hb⟩ := get_some (l := f) (k := k) (by omega)
 have hb4 := hp b (List.mem_of_getElem? hb)
 obtain ⟨⟨X, cap⟩, hx, c0, c1, f0, f1, hr, hc⟩ := h.at_ hb
 dsimp only at hr hc c0
 obtain ⟨pb, po, rfl⟩ := hr.addr (pgs_ne (by intro e; rw [e] at hb4; simp at hb4))
 rw [hb4] at c0 hc
 exact ⟨b, pb, po, cap, hb, hx, hb4, hc, c0, c1, f0, f1, hr⟩
end Go.Proofs.Ytclnogfmmekooaa
namespace Go.Proofs.Ytclnogfmmekooaa
set_option linter.unusedVariables false
set_option linter.unusedSimpArgs false
open Go.RowKit Go.Maps
set_option maxHeartbeats 400000
/-- a code that can be read -/
structure Code (w : World) (A : Option Addr) (bs : List Nat) (c : Nat) : Prop where
 len : bs.length ≤ c
 cap : c ≤ 9223372036854775807
 byte : ∀ b ∈ bs, b < 256
 row : RRow w A (bytes bs)
end Go.Proofs.Ytclnogfmmekooaa
namespace Go.Proofs.Ytclnogfmmekooaa
set_option linter.unusedVariables false
set_option linter.unusedSimpArgs false
open Go.RowKit Go.Maps
set_option maxHeartbeats 4000000
set_option maxRecDepth 100000
def loS (a : Int) (b : Bk) : Int := if b.worn < a then b.worn else a
def hiS (a : Int) (b : Bk) : Int := if a < b.worn then b.worn else a
theorem wLo_def (f : List Bk) : wLo f = f.foldl loS 200 := rfl
theorem wHi_def (f : List Bk) : wHi f = f.foldl hiS 0 := rfl
theorem spec_WearSpread (f : List Bk) (A : Option Addr) (c : Nat) (w : World) (hlen : f.length < 1000000000000) (hF : Fl w A f) : Calls Try.prog 12 #[.slice A f.length c] w fun e w' => e = .returned (.int .i64 (if flashOk f then wHi f - wLo f else -1)) ∧ Below w.heap.size w w' := by
 by_cases hok : flashOk f = true
 · have hc := fun w hF => spec_FlashOk f A c w hlen hF
   rw [hok] at hc
   rw [hok]
   have h4 := (flash_four hok).1
   have hw := Lib.hid (flash_four hok).2
   have hLH := Lib.hid (And.intro (wLo_ge hok) (wHi_le hok))
   obtain ⟨b0, hb0⟩ := get_some (l := f) (k := 0) (by omega)
   have hw0 := hw.out b0 (List.mem_of_getElem? hb0)
   have hd0 : f = b0 :: f.drop 1 := by have := drop_cons hb0; simpa using this
   have hL : Hid (wLo f = (f.drop 1).foldl loS b0.worn) := by
    unfold Hid
    rw [wLo_def]
    rw [hd0, List.foldl_cons]
    simp only [List.drop_succ_cons, List.drop_zero]
    congr 1
    unfold loS; split <;> omega
   have hH : Hid (wHi f = (f.drop 1).foldl hiS b0.worn) := by
    unfold Hid
    rw [wHi_def]
    rw [hd0, List.foldl_cons]
    simp only [List.drop_succ_cons, List.drop_zero]
    congr 1
    unfold hiS; split <;> omega
   have HL := Lib.hid h4
   clear hok hd0 h4
   have HC := Lib.hid hc
   clear hc
   go_enter Try.func12, Try.ntmps12
   go_wp2_with fail
   (with_reducible refine (HC.out _ hF).mono ?_)
   rintro e w1 ⟨rfl, hb1⟩
   obtain ⟨hs, hB⟩ := hF.below hb1 (Nat.le_refl _)
   obtain ⟨g, o, rfl⟩ := hB.addr (by rintro rfl; have := HL.out; simp at this)
   clear hF HC
   obtain ⟨x0, _, a0, a1, _⟩ := hB.at_ hb0
   simp only [Nat.zero_mul, Nat.add_zero] at a0 a1
   have hb0' := Lib.hid hb0
   have l0 : (0 : Int) < f.length := by have := HL.out; omega
   clear hb0
   go_wp2
   go_loopw [3, 4, 5] (fun q r i wr => ∃ (k : Nat) (m n : Int), k ≤ f.length ∧ i = .int .i64 k ∧ q = .int .i64 m ∧ r = .int .i64 n ∧ wr = w1 ∧ Hid (wLo f = (f.drop k).foldl loS m) ∧ Hid (wHi f = (f.drop k).foldl hiS n)) (fun _ _ i _ => f.length - (intOf i).toNat)
   case atStart => exact ⟨1, _, _, by have := HL.out; omega, rfl, rfl, rfl, rfl, hL, hH⟩
   case round =>
    clear hL hH
    obtain ⟨k, m, n, hk, rfl, rfl, rfl, rfl, hL, hH⟩ := hrel
    by_cases hlt : k < f.length
    · obtain ⟨b, hb⟩ := get_some hlt
      obtain ⟨x, _, c0, c1, _⟩ := hB.at_ hb
      have hd := Lib.hid (drop_cons hb)
      have hk1 : (k : Int) < f.length := by omega
      clear hb
      go_wp2
      go_roundw
      case rel => exact ⟨k + 1, loS m b, hiS n b, by omega, by go_num, by unfold loS; rfl, by unfold hiS; rfl, by trivial, by rw [Hid, hL.out, hd.out]; rfl, by rw [Hid, hH.out, hd.out]; rfl⟩
      case measure => simp [intOf]; omega
    · obtain rfl : k = f.length := by omega
      have eL : m = wLo f := by rw [hL.out, List.drop_of_length_le (Nat.le_refl _)]; rfl
      have eH : n = wHi f := by rw [hH.out, List.drop_of_length_le (Nat.le_refl _)]; rfl
      subst eL eH
      have hr : IntKind.i64.wrap (wHi f - wLo f) = wHi f - wLo f := by have := hLH.out; rw [IntKind.wrap_i64]; omega
      go_wp2
      go_ret
      exact ⟨ret_int (by first | rfl | (simpa using hr) | (have := hLH.out; exact IntWalk.i64_in _ (by omega))), hb1⟩
 · have hc := fun w hF => spec_FlashOk f A c w hlen hF
   have hf : flashOk f = false := by simpa using hok
   rw [hf] at hc
   rw [hf]
   go_enter Try.func12, Try.ntmps12
   go_wp2_with fail
   (with_reducible refine (hc _ hF).mono ?_)
   rintro e w1 ⟨rfl, hb1⟩
   go_wp2
   go_ret
   exact ⟨ret_int (by simp), hb1⟩
end Go.Proofs.Ytclnogfmmekooaa
namespace Go.Proofs.Ytclnogfmmekooaa
set_option linter.unusedVariables false
set_option linter.unusedSimpArgs false
open Go.RowKit Go.Conc
/-- From the walk to the run. -/
theorem run_of_fine {Post : Value → World → Prop} {fr : Frame} {W : World} (h : Fine Try.prog Post (fun _ => False) (Go.Conc.G fr []) W) :
 ∃ M last o w' t', runNT Try.prog (M + 1) (solo (Go.Conc.G fr []) W) #[] = (.ended o w', t') ∧ runN Try.prog M (solo (Go.Conc.G fr []) W) = .next last ∧ step Try.prog last = .ended o w' ∧ Go.Conc.Good Try.prog Post last o w' t' := by
 have hE := FineB.mono (B := 0) h (Nat.zero_le _) W.tape W.drawn #[Go.Conc.G fr []] none #[] (fun _ => 0) (fun _ => False) (fun l hl => hl.elim) rfl (leavers_one _ _) past_nil
 rw [tp_self, ← solo_eq_crowd] at hE
 exact hE
end Go.Proofs.Ytclnogfmmekooaa
