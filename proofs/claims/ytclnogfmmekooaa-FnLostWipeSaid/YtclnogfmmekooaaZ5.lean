/- What the laws' walks share: words, plain laws, and the walks of functions, part 5. -/
import Derived.Test.YtclnogfmmekooaaProg
import Derived.KernelRfl
import Derived.Lib.Hide
import Derived.Laws.MakeOwn
import Derived.BigQuiet
import Derived.Laws.Bits64
import Derived.Deep.Slices
import Derived.Test.YtclnogfmmekooaaZ4
namespace Go.Proofs.Ytclnogfmmekooaa
set_option linter.unusedVariables false
set_option linter.unusedSimpArgs false
open Go.Conc Go.ConcN Go.ConcR.Gen Go.RowKit
open Go.ConcR (DC0)
section
variable {P : Program} {Post : Value → World → Prop} {SB : Nat → Prop} {B B' : Nat} {g g' : Goroutine} {w : World}
theorem FineB.mono (h : FineB P Post SB B' g w) (hB : B ≤ B') : FineB P Post SB B g w := fun T d gs sl t q Shun hS h0 hL hP => h T d gs sl t q Shun hS h0 hL (hP.mono hB)
theorem FineB.tp (h : FineB P Post SB B g w) (T : Nat → Question → Nat) (d : Nat) : FineB P Post SB B g (tp w T d) := fun T' d' => h T' d'
theorem FineB.less {SB' : Nat → Prop} (h : FineB P Post SB' B g w) (hs : ∀ b, SB b → SB' b) : FineB P Post SB B g w := fun T d gs sl t q Shun hS h0 hL hP => h T d gs sl t q Shun (fun l hl => let ⟨a, e, hb⟩ := hS l hl; ⟨a, e, hs _ hb⟩) h0 hL hP
theorem fb_ctl (hr : g.status = .running) (h : ∀ w, stepG P true g w = .go g' w #[]) (next : FineB P Post SB B g' w) : FineB P Post SB B g w :=
 FineB.step hr fun T d => ⟨g', Go.Proofs.Ytclnogfmmekooaa.tp w T d, #[], B, h _, Nat.le_refl _, by simp, next.tp T d⟩
/-- Silent steps. -/
theorem FineB.goes {R : World → World → Prop} {gE : Goroutine} (hR : ∀ w T d, R w (Go.Proofs.Ytclnogfmmekooaa.tp w T d)) : ∀ (m : Nat) (g : Goroutine) (w : World), Goes P true R DC0 (fun g _ => g = gE) m g w → FineB P Post SB B gE w → FineB P Post SB B g w
 | 0, g, w, h, next => by
   have : g = gE := h w (hR w w.tape w.drawn)
   rwa [this]
 | m + 1, g, w, h, next => by
   rcases h with h | ⟨hr, h⟩
   · have : g = gE := h w (hR w w.tape w.drawn)
     rwa [this]
   · refine FineB.step hr fun T d => ?_
     obtain ⟨g', w', es, e, ⟨h1, h2⟩, hm⟩ := goes_elim (h _ (hR w T d))
     subst h1 h2
     exact ⟨g', _, _, B, e, Nat.le_refl _, by simp, FineB.goes hR m g' _ hm (next.tp T d)⟩

/-- What is held: the elder blocks stand; these are new. -/
structure PH (w0 : World) (H : List (Nat × Obj)) (w : World) : Prop where
 size : w.heap.size = w0.heap.size + H.length
 old : ∀ b, b < w0.heap.size → w.heap[b]? = w0.heap[b]?
 held : ∀ p ∈ H, w.heap[p.1]? = some p.2
 lo : ∀ p ∈ H, w0.heap.size ≤ p.1
 os : w.os = w0.os
 output : w.output = w0.output
variable {w0 : World} {H : List (Nat × Obj)}
theorem PH.refl (w : World) : PH w [] w := ⟨rfl, fun _ _ => rfl, by simp, by simp, rfl, rfl⟩
theorem PH.tp (h : PH w0 H w) (T : Nat → Question → Nat) (d : Nat) : PH w0 H (Go.Proofs.Ytclnogfmmekooaa.tp w T d) := ⟨h.size, h.old, h.held, h.lo, h.os, h.output⟩
theorem PH.lt (h : PH w0 H w) {p : Nat × Obj} (hp : p ∈ H) : p.1 < w.heap.size := by
 have := h.held p hp
 rcases Nat.lt_or_ge p.1 w.heap.size with hlt | hge
 · exact hlt
 · rw [Array.getElem?_eq_none hge] at this; cases this
theorem PH.push (h : PH w0 H w) (o : Obj) : PH w0 ((w0.heap.size + H.length, o) :: H) { w with heap := w.heap.push o } := by
 have hs := h.size
 have old : ∀ b, b < w.heap.size → (w.heap.push o)[b]? = w.heap[b]? := fun b hb => by rw [Array.getElem?_push_lt hb, ← Array.getElem?_eq_getElem]
 refine ⟨by simp [hs]; omega, fun b hb => (old b (by omega)).trans (h.old b hb), fun p hp => ?_, fun p hp => ?_, h.os, h.output⟩
 · rcases List.mem_cons.1 hp with rfl | hp
   · show (w.heap.push o)[w0.heap.size + H.length]? = _; rw [← hs]; simp
   · exact (old _ (h.lt hp)).trans (h.held p hp)
 · rcases List.mem_cons.1 hp with rfl | hp
   · show w0.heap.size ≤ w0.heap.size + H.length; omega
   · exact h.lo p hp
theorem PH.cell (h : PH w0 H w) {b : Nat} {cs : Array Value} {t : TypeId} (hp : (b, Obj.cells cs t) ∈ H) (j : Nat) : w.cell? ⟨b, j, none⟩ = cs[j]? := by
 have := h.held _ hp
 simp [World.cell?, this]
theorem PH.thaw (h : PH w0 H w) {b : Nat} {cs : Array Value} {t : TypeId} (hp : (b, Obj.cells cs t) ∈ H) (j : Nat) : w.frozen? ⟨b, j, none⟩ = false := by
 have := h.held _ hp
 simp [World.frozen?, this]
theorem PH.set {u j : Nat} {cs : Array Value} {t : TypeId} {v : Value} (h : PH w0 ((u, .cells cs t) :: H) w) (hne : ∀ p ∈ H, p.1 ≠ u) : PH w0 ((u, .cells (cs.setIfInBounds j v) t) :: H) (w.setCell ⟨u, j, none⟩ v) := by
 have hu : w0.heap.size ≤ u := h.lo _ (List.mem_cons_self ..)
 have st : ∀ b, b ≠ u → (w.setCell ⟨u, j, none⟩ v).heap[b]? = w.heap[b]? := fun b hb => Below.heap_setCell w ⟨u, j, none⟩ v b hb
 refine ⟨by have := h.size; simpa [World.setCell] using this, fun b hb => (st b (by omega)).trans (h.old b hb), fun p hp => ?_, fun p hp => ?_, h.os, h.output⟩
 · rcases List.mem_cons.1 hp with rfl | hp
   · exact heap_set_same (h.held _ (List.mem_cons_self ..))
   · exact (st _ (hne p hp)).trans (h.held p (List.mem_cons_of_mem _ hp))
 · rcases List.mem_cons.1 hp with rfl | hp
   · exact hu
   · exact h.lo p (List.mem_cons_of_mem _ hp)

variable {b : Frame} {a : Act} {k : List Item} {cs : List Frame} {ops : Array Oper} {j : Nat} {rest : List Nat} {o : Oper} {v : Value}
theorem fb_val (hF : PH w0 H w) (ho : ops[j]? = some o) (hw : Region.wanted o (yielded ops a.tmps) = true) (hk : b.kind ≠ .early)
 (hrun : ∀ w, PH w0 H w → (execOp a.eval o).run P w = .ok (.value v) w ∧ ∀ e ∈ listed P b.fn a o w, EvF SB B e)
 (next : FineB P Post SB B (G (b.at (a.put o.dst v) (.inRegion ops rest :: k)) cs) w) : FineB P Post SB B (G (b.at a (.inRegion ops (j :: rest) :: k)) cs) w :=
 FineB.step rfl fun T d => ⟨_, Go.Proofs.Ytclnogfmmekooaa.tp w T d, _, B, stepG_value ho hw hk (hrun _ (hF.tp T d)).1, Nat.le_refl _, (hrun _ (hF.tp T d)).2, next.tp T d⟩
theorem fb_new (hF : PH w0 H w) (ho : ops[j]? = some o) (hw : Region.wanted o (yielded ops a.tmps) = true) (hk : b.kind ≠ .early) (ob : Obj)
 (hrun : ∀ w, PH w0 H w → w.heap.size = w0.heap.size + H.length → (execOp a.eval o).run P w = .ok (.value v) { w with heap := w.heap.push ob } ∧ listed P b.fn a o w = #[])
 (next : ∀ w, PH w0 ((w0.heap.size + H.length, ob) :: H) w → FineB P Post SB B (G (b.at (a.put o.dst v) (.inRegion ops rest :: k)) cs) w) : FineB P Post SB B (G (b.at a (.inRegion ops (j :: rest) :: k)) cs) w :=
 FineB.step rfl fun T d => by
  have hF' := hF.tp T d
  obtain ⟨h1, h2⟩ := hrun _ hF' hF'.size
  exact ⟨_, _, #[], B, (stepG_value ho hw hk h1).trans (by rw [h2]), Nat.le_refl _, by simp, next _ (hF'.push ob)⟩
theorem fb_set {H' : List (Nat × Obj)} (hF : PH w0 H w) (ho : ops[j]? = some o) (hw : Region.wanted o (yielded ops a.tmps) = true) (hk : b.kind ≠ .early) (f : World → World)
 (hrun : ∀ w, PH w0 H w → (execOp a.eval o).run P w = .ok .skip (f w) ∧ (∀ e ∈ listed P b.fn a o w, EvF SB B e) ∧ PH w0 H' (f w))
 (next : ∀ w, PH w0 H' w → FineB P Post SB B (G (b.at (a.put o.dst undef) (.inRegion ops rest :: k)) cs) w) : FineB P Post SB B (G (b.at a (.inRegion ops (j :: rest) :: k)) cs) w :=
 FineB.step rfl fun T d => by
  obtain ⟨h1, h2, h3⟩ := hrun _ (hF.tp T d)
  exact ⟨_, _, _, B, stepG_none ho hw hk h1, Nat.le_refl _, h2, next _ h3⟩
/-- The function comes back; it reads no memory. -/
theorem fb_leave {c : Frame} {todo : List Item} {fn : Func} (hn : b.kind = .normal) (hd : a.defers = []) (hf : P.funcs[b.fn]? = some fn)
 (hrun : ∀ w, (results fn a.tmps).run P w = .ok v w ∧ seen P b.fn ((results fn a.tmps).events P w #[]) = #[])
 (next : FineB P Post SB B (G (c.finish v) cs) w) : FineB P Post SB B (G { b.at a todo with mode := .returning } (c :: cs)) w :=
 fb_ctl rfl (fun w₁ => by
  obtain ⟨h1, h2⟩ := hrun w₁
  have hst : stepG P true (G { b.at a todo with mode := .returning } (c :: cs)) w₁ = .go (G (c.finish v) cs) w₁ (seen P b.fn ((results fn a.tmps).events P w₁ #[])) := by
   simp [G, stepG, unwind, doReturn, Frame.at, hn, hd, hf, Sem.runT_eq, h1, GStep.after]
  rw [hst, h2]) next
end
end Go.Proofs.Ytclnogfmmekooaa
namespace Go.Proofs.Ytclnogfmmekooaa
set_option linter.unusedVariables false
set_option linter.unusedSimpArgs false
open Go.Conc Go.ConcN Go.ConcR.Gen Go.RowKit Go.Conc.Lib
open Go.ConcR (KK WgAt DC0)
set_option maxRecDepth 100000
set_option maxHeartbeats 4000000
/-- What is found at each block. -/
def wears (f : List Bk) : List Value := f.flatMap fun b => [.int .i64 b.worn, .int .i64 (tornN b.pages : Int)]
def wres (f : List Bk) (k : Nat) : List (Nat × Value) := match f[k]? with
 | some b => [(k * 2, .int .i64 b.worn), (k * 2 + 1, .int .i64 (tornN b.pages : Int))]
 | none => []
theorem wres_some {f : List Bk} {k : Nat} {b : Bk} (h : f[k]? = some b) : wres f k = [(k * 2, .int .i64 b.worn), (k * 2 + 1, .int .i64 (tornN b.pages : Int))] := by simp [wres, h]
theorem wres_off {f : List Bk} {k off : Nat} {v : Value} (h : (off, v) ∈ wres f k) : off / 2 = k := by
 unfold wres at h
 split at h
 · simp at h; omega
 · simp at h
theorem make_wears (w : World) : (Instr.makeSlice 52 (.int .i64 4) (.int .i64 4)).run Try.prog w = .ok (.slice (some ⟨w.heap.size, 0, none⟩) 4 4) (w.alloc (.cells #[.int .i64 0, .int .i64 0, .int .i64 0, .int .i64 0, .int .i64 0, .int .i64 0, .int .i64 0, .int .i64 0] 55)) := by kernel_rfl
theorem makes_wears (w : World) : (Instr.makeSlice 52 (.int .i64 4) (.int .i64 4)).events Try.prog w #[] = #[] := by kernel_rfl
section
variable {Post : Value → World → Prop} {SB : Nat → Prop} {w0 : World} {A ao c : Nat} {f : List Bk} {hs : List (Option Addr × Nat)} {cc : Frame} {cs : List Frame}
/-- From its entry to its loop. -/
theorem we0 (hSB : ∀ b, SB b → b < w0.heap.size)
 (next : ∀ w T, PH w0 [(w0.heap.size + 3, .cells #[.int .u64 0, .int .u32 0] 87), (w0.heap.size + 2, .cells #[.slice (some ⟨w0.heap.size + 1, 0, none⟩) 4 4] 52), (w0.heap.size + 1, .cells #[.int .i64 0, .int .i64 0, .int .i64 0, .int .i64 0, .int .i64 0, .int .i64 0, .int .i64 0, .int .i64 0] 55), (w0.heap.size, .cells #[.slice (some ⟨A, ao, none⟩) 4 c] 25)] w → T.size = 19 → T[1]? = some (.pointer (some ⟨w0.heap.size, 0, none⟩)) → T[3]? = some (.pointer (some ⟨w0.heap.size + 2, 0, none⟩)) → T[4]? = some (.pointer (some ⟨w0.heap.size + 3, 0, none⟩)) → T[10]? = some (.int .i64 4) → T[11]? = some (.int .i64 0) →
  FineB Try.prog Post SB (w0.heap.size + 3) (G ((base 32).at ⟨T, []⟩ [.code weB, .inLoop weB, .inBlock 0, .code weT]) (cc :: cs)) w) :
 Fine Try.prog Post SB (G (Frame.enter Try.prog 32 #[.slice (some ⟨A, ao, none⟩) 4 c] .normal) (cc :: cs)) w0 := by
 unfold Fine
 refine FineB.mono (B' := w0.heap.size + 3) ?_ (by omega)
 have hF := PH.refl w0
 rw [enter_at _ Try.func32 rfl]
 walk_nrmf Try.f32
 refine fb_ctl rfl (fun w => stepG_seq) ?_
 refine fb_ctl rfl (fun w => stepG_region) ?_
 simp only [List.size_toArray, List.length_cons, List.length_nil, Nat.reduceAdd, Nat.zero_add, List.range, List.range.loop]
 refine fb_new (v := .pointer (some ⟨w0.heap.size, 0, none⟩)) hF rfl rfl (by k_ne) (.cells #[.slice (some ⟨A, ao, none⟩) 4 c] 25) (fun w hw hz => ⟨by simp only [List.length_cons, List.length_nil, Nat.reduceAdd, Nat.add_zero, Nat.zero_add] at hz; rw [← hz]; go_simp, listed_nil (by simp [go_sem, *])⟩) (fun w hF => ?_)
 replace hF : PH w0 [(w0.heap.size, .cells #[.slice (some ⟨A, ao, none⟩) 4 c] 25)] w := hF
 walk_nrm
 refine fb_val hF rfl rfl (by k_ne) (fun w hw => ⟨run_eq_of (fun K hK => by skip; go_simp; exact hK), by rw [listed_nil (by simp [go_sem, *])]; simp⟩) ?_
 walk_nrm
 refine fb_ctl rfl (fun w => stepG_region_end) ?_
 refine fb_ctl rfl (fun w => stepG_seq) ?_
 refine fb_ctl rfl (fun w => stepG_region) ?_
 simp only [List.size_toArray, List.length_cons, List.length_nil, Nat.reduceAdd, Nat.zero_add, List.range, List.range.loop]
 refine fb_val hF rfl rfl (by k_ne) (fun w hw => ⟨run_eq_of (fun K hK => by have h0 : w.cell? ⟨w0.heap.size, 0, none⟩ = some (.slice (some ⟨A, ao, none⟩) 4 c) := (hw.cell (b := w0.heap.size) (cs := #[.slice (some ⟨A, ao, none⟩) 4 c]) (t := 25) (by simp) 0).trans rfl; go_simp; exact hK), by have h0 : w.cell? ⟨w0.heap.size, 0, none⟩ = some (.slice (some ⟨A, ao, none⟩) 4 c) := (hw.cell (b := w0.heap.size) (cs := #[.slice (some ⟨A, ao, none⟩) 4 c]) (t := 25) (by simp) 0).trans rfl; intro e he; have hm := mem_listed he; simp [go_sem, *] at hm; subst hm; exact ⟨fun hs => by have h := hSB _ hs; dsimp only at h; omega, by dsimp only; omega⟩⟩) ?_
 walk_nrm
 refine fb_val hF rfl rfl (by k_ne) (fun w hw => ⟨run_eq_of (fun K hK => by skip; go_simp; exact hK), by rw [listed_nil (by simp [go_sem, *])]; simp⟩) ?_
 walk_nrm
 refine fb_new (v := .slice (some ⟨w0.heap.size + 1, 0, none⟩) 4 4) hF rfl rfl (by k_ne) (.cells #[.int .i64 0, .int .i64 0, .int .i64 0, .int .i64 0, .int .i64 0, .int .i64 0, .int .i64 0, .int .i64 0] 55) (fun w hw hz => ⟨by simp only [List.length_cons, List.length_nil, Nat.reduceAdd, Nat.add_zero, Nat.zero_add] at hz; rw [← hz]; have mk := make_wears w; go_simp, listed_nil (by have mk := makes_wears w; simp [go_sem, *])⟩) (fun w hF => ?_)
 replace hF : PH w0 [(w0.heap.size + 1, .cells #[.int .i64 0, .int .i64 0, .int .i64 0, .int .i64 0, .int .i64 0, .int .i64 0, .int .i64 0, .int .i64 0] 55), (w0.heap.size, .cells #[.slice (some ⟨A, ao, none⟩) 4 c] 25)] w := hF
 walk_nrm
 refine fb_new (v := .pointer (some ⟨w0.heap.size + 2, 0, none⟩)) hF rfl rfl (by k_ne) (.cells #[.slice none 0 0] 52) (fun w hw hz => ⟨by simp only [List.length_cons, List.length_nil, Nat.reduceAdd, Nat.add_zero, Nat.zero_add] at hz; rw [← hz]; go_simp, listed_nil (by simp [go_sem, *])⟩) (fun w hF => ?_)
 replace hF : PH w0 [(w0.heap.size + 2, .cells #[.slice none 0 0] 52), (w0.heap.size + 1, .cells #[.int .i64 0, .int .i64 0, .int .i64 0, .int .i64 0, .int .i64 0, .int .i64 0, .int .i64 0, .int .i64 0] 55), (w0.heap.size, .cells #[.slice (some ⟨A, ao, none⟩) 4 c] 25)] w := hF
 walk_nrm
 refine fb_set hF rfl rfl (by k_ne) (fun w => w.setCell ⟨w0.heap.size + 2, 0, none⟩ (.slice (some ⟨w0.heap.size + 1, 0, none⟩) 4 4)) (fun w hw => ⟨by have h0 : w.cell? ⟨w0.heap.size + 2, 0, none⟩ = some (.slice none 0 0) := (hw.cell (b := w0.heap.size + 2) (cs := #[.slice none 0 0]) (t := 52) (by simp) 0).trans rfl; have z0 := hw.thaw (b := w0.heap.size + 2) (cs := #[.slice none 0 0]) (t := 52) (by simp) 0; go_simp, by have h0 : w.cell? ⟨w0.heap.size + 2, 0, none⟩ = some (.slice none 0 0) := (hw.cell (b := w0.heap.size + 2) (cs := #[.slice none 0 0]) (t := 52) (by simp) 0).trans rfl; have z0 := hw.thaw (b := w0.heap.size + 2) (cs := #[.slice none 0 0]) (t := 52) (by simp) 0; intro e he; have hm := mem_listed he; simp [go_sem, *] at hm; subst hm; exact ⟨fun hs => by have h := hSB _ hs; dsimp only at h; omega, by dsimp only; omega⟩, hw.set (j := 0) (v := .slice (some ⟨w0.heap.size + 1, 0, none⟩) 4 4) (by simp)⟩) (fun w hF => ?_)
 replace hF : PH w0 [(w0.heap.size + 2, .cells #[.slice (some ⟨w0.heap.size + 1, 0, none⟩) 4 4] 52), (w0.heap.size + 1, .cells #[.int .i64 0, .int .i64 0, .int .i64 0, .int .i64 0, .int .i64 0, .int .i64 0, .int .i64 0, .int .i64 0] 55), (w0.heap.size, .cells #[.slice (some ⟨A, ao, none⟩) 4 c] 25)] w := by simpa using hF
 walk_nrm
 refine fb_ctl rfl (fun w => stepG_region_end) ?_
 refine fb_ctl rfl (fun w => stepG_seq) ?_
 refine fb_ctl rfl (fun w => stepG_region) ?_
 simp only [List.size_toArray, List.length_cons, List.length_nil, Nat.reduceAdd, Nat.zero_add, List.range, List.range.loop]
 refine fb_new (v := .pointer (some ⟨w0.heap.size + 3, 0, none⟩)) hF rfl rfl (by k_ne) (.cells #[.int .u64 0, .int .u32 0] 87) (fun w hw hz => ⟨by simp only [List.length_cons, List.length_nil, Nat.reduceAdd, Nat.add_zero, Nat.zero_add] at hz; rw [← hz]; go_simp, listed_nil (by simp [go_sem, *])⟩) (fun w hF => ?_)
 replace hF : PH w0 [(w0.heap.size + 3, .cells #[.int .u64 0, .int .u32 0] 87), (w0.heap.size + 2, .cells #[.slice (some ⟨w0.heap.size + 1, 0, none⟩) 4 4] 52), (w0.heap.size + 1, .cells #[.int .i64 0, .int .i64 0, .int .i64 0, .int .i64 0, .int .i64 0, .int .i64 0, .int .i64 0, .int .i64 0] 55), (w0.heap.size, .cells #[.slice (some ⟨A, ao, none⟩) 4 c] 25)] w := hF
 walk_nrm
 refine fb_ctl rfl (fun w => stepG_region_end) ?_
 refine fb_ctl rfl (fun w => stepG_seq) ?_
 refine fb_ctl rfl (fun w => stepG_seq) ?_
 refine fb_ctl rfl (fun w => stepG_region) ?_
 simp only [List.size_toArray, List.length_cons, List.length_nil, Nat.reduceAdd, Nat.zero_add, List.range, List.range.loop]
 refine fb_val hF rfl rfl (by k_ne) (fun w hw => ⟨run_eq_of (fun K hK => by have h0 : w.cell? ⟨w0.heap.size, 0, none⟩ = some (.slice (some ⟨A, ao, none⟩) 4 c) := (hw.cell (b := w0.heap.size) (cs := #[.slice (some ⟨A, ao, none⟩) 4 c]) (t := 25) (by simp) 0).trans rfl; go_simp; exact hK), by have h0 : w.cell? ⟨w0.heap.size, 0, none⟩ = some (.slice (some ⟨A, ao, none⟩) 4 c) := (hw.cell (b := w0.heap.size) (cs := #[.slice (some ⟨A, ao, none⟩) 4 c]) (t := 25) (by simp) 0).trans rfl; intro e he; have hm := mem_listed he; simp [go_sem, *] at hm; subst hm; exact ⟨fun hs => by have h := hSB _ hs; dsimp only at h; omega, by dsimp only; omega⟩⟩) ?_
 walk_nrm
 refine fb_val hF rfl rfl (by k_ne) (fun w hw => ⟨run_eq_of (fun K hK => by skip; go_simp; exact hK), by rw [listed_nil (by simp [go_sem, *])]; simp⟩) ?_
 walk_nrm
 refine fb_val hF rfl rfl (by k_ne) (fun w hw => ⟨run_eq_of (fun K hK => by skip; go_simp; exact hK), by rw [listed_nil (by simp [go_sem, *])]; simp⟩) ?_
 walk_nrm
 refine fb_ctl rfl (fun w => stepG_region_end) ?_
 refine fb_ctl rfl (fun w => stepG_block) ?_
 refine fb_ctl rfl (fun w => stepG_loop) ?_
 have hh := fun T => next w T hF
 simp only [weB, weT, Try.f32] at hh
 exact hh _ rfl rfl rfl rfl rfl rfl
end
end Go.Proofs.Ytclnogfmmekooaa
namespace Go.Proofs.Ytclnogfmmekooaa
set_option linter.unusedVariables false
set_option linter.unusedSimpArgs false
open Go.Conc Go.ConcN Go.ConcR.Gen Go.RowKit Go.Conc.Lib
open Go.ConcR (KK WgAt DC0)
set_option maxRecDepth 100000
set_option maxHeartbeats 4000000
theorem weE_eq : weE = .seq (.region 10 #[{ dst := some 18, op := .load 52 (.tmp 3), type := 52, pos := "l13_wear.go:34", after := #[], guard := none }, { dst := some 2, op := .assign (.tmp 18), type := 52, pos := "l13_wear.go:34", after := #[{ on := 0, ground := .data }, { on := 0, ground := .phase }], guard := none }] false) .ret := by kernel_rfl
section
variable {Post : Value → World → Prop} {SB : Nat → Prop} {w0 : World} {A ao c : Nat} {f : List Bk} {hs : List (Option Addr × Nat)} {cc : Frame} {cs : List Frame}
/-- From behind Wait's call to the caller. -/
theorem we1 {w : World} {s C : Nat} {T : Array Value} (hT : T.size = 19) (t3 : T[3]? = some (.pointer (some ⟨s, 0, none⟩))) (hs : s < w.heap.size) (hn : ¬ SB s) (hc : w.cell? ⟨s, 0, none⟩ = some (.slice (some ⟨C, 0, none⟩) 4 4))
 (next : Fine Try.prog Post SB (G (cc.finish (.slice (some ⟨C, 0, none⟩) 4 4)) cs) w) : Fine Try.prog Post SB (G ((base 32).at ⟨T, []⟩ (.inRegion opsX [] :: [.code weE])) (cc :: cs)) w := by
 unfold Fine
 have hF := PH.refl w
 refine fb_ctl rfl (fun w => stepG_region_end) ?_
 rw [weE_eq]
 refine fb_ctl rfl (fun w => stepG_seq) ?_
 refine fb_ctl rfl (fun w => stepG_region) ?_
 simp only [List.size_toArray, List.length_cons, List.length_nil, Nat.reduceAdd, Nat.zero_add, List.range, List.range.loop]
 obtain ⟨v0, v1, v2, v3, v4, v5, v6, v7, v8, v9, v10, v11, v12, v13, v14, v15, v16, v17, v18, rfl⟩ := arr19 T hT
 simp only [List.getElem?_toArray, List.getElem?_cons_succ, List.getElem?_cons_zero, Option.some.injEq] at t3
 subst t3
 have hc' : ∀ w', PH w [] w' → w'.cell? ⟨s, 0, none⟩ = some (.slice (some ⟨C, 0, none⟩) 4 4) := fun w' hw => (World.cell?_of_block (a := ⟨s, 0, none⟩) (hw.old s hs)).trans hc
 refine fb_val hF rfl rfl (by k_ne) (fun w' hw => ⟨run_eq_of (fun K hK => by have h0 := hc' w' hw; go_simp; exact hK), by have h0 := hc' w' hw; intro e he; have hm := mem_listed he; simp [go_sem, *] at hm; subst hm; exact ⟨hn, hs⟩⟩) ?_
 walk_nrm
 refine fb_val hF rfl rfl (by k_ne) (fun w hw => ⟨run_eq_of (fun K hK => by go_simp; exact hK), by rw [listed_nil (by simp [go_sem, *])]; simp⟩) ?_
 walk_nrm
 refine fb_ctl rfl (fun w => stepG_region_end) ?_
 refine fb_ctl rfl (fun w => stepG_ret') ?_
 refine fb_leave rfl rfl Try.func32 (fun w => ⟨?_, ?_⟩) next
 · simp [results, Try.f32, go_sem]
 · rw [show (results Try.f32 _).events Try.prog w #[] = #[] by simp [results, Try.f32, go_sem]]
   rfl
/-- ████ impl.wearEach WHOLE. ████ -/
theorem Fine.wearEach (hf : Bks w0 (some ⟨A, ao, none⟩) f hs) (h4 : f.length = 4) (hp4 : ∀ b ∈ f, b.pages.length = 4) (hSB : ∀ b, SB b → b < w0.heap.size) (hN : ∀ b, fblk (some ⟨A, ao, none⟩) hs b → ¬ SB b)
 (next : ∀ w', w0.heap.size + 4 ≤ w'.heap.size → (∀ b, b < w0.heap.size → w'.heap[b]? = w0.heap[b]?) → w'.heap[w0.heap.size + 1]? = some (.cells (wears f).toArray 55) → w'.os = w0.os → w'.output = w0.output →
  Fine Try.prog Post (fun b => SB b ∨ b = w0.heap.size + 3) (G (cc.finish (.slice (some ⟨w0.heap.size + 1, 0, none⟩) 4 4)) cs) w') :
 Fine Try.prog Post SB (G (Frame.enter Try.prog 32 #[.slice (some ⟨A, ao, none⟩) 4 c] .normal) (cc :: cs)) w0 := by
 refine we0 hSB fun w T hF hT t1 t3 t4 t10 t11 => ?_
 have hsz : w.heap.size = w0.heap.size + 4 := hF.size
 obtain ⟨s, es⟩ : ∃ s, w0.heap.size = s := ⟨_, rfl⟩
 have hold : ∀ b, b < s → w.heap[b]? = w0.heap[b]? := by rw [← es]; exact hF.old
 have hF0 := hF.held (w0.heap.size, .cells #[.slice (some ⟨A, ao, none⟩) 4 c] 25) (by simp)
 have hF1 := hF.held (w0.heap.size + 1, .cells #[.int .i64 0, .int .i64 0, .int .i64 0, .int .i64 0, .int .i64 0, .int .i64 0, .int .i64 0, .int .i64 0] 55) (by simp)
 have hF2 := hF.held (w0.heap.size + 2, .cells #[.slice (some ⟨w0.heap.size + 1, 0, none⟩) 4 4] 52) (by simp)
 have hF3 := hF.held (w0.heap.size + 3, .cells #[.int .u64 0, .int .u32 0] 87) (by simp)
 have hos := hF.os
 have hout := hF.output
 clear hF
 simp only [es] at hF0 hF1 hF2 hF3 hsz t1 t3 t4 hSB next ⊢
 let Φ : Ph := { ty := link.tWg, Wg := s + 3, C := s + 1, n0 := s + 4, ety := 55, sz := 8, h0 := w.heap, SB := SB, nw := 4, res := wres f }
 have kk : Φ.Ok := ⟨by show s + 1 < s + 4; omega, by show s + 3 < s + 4; omega, by show s + 1 ≠ s + 3; omega, fun b hb => by
  have h : b < s := hSB b hb
  refine ⟨?_, ?_, ?_⟩
  · show b < s + 4; omega
  · show b ≠ s + 1; omega
  · show b ≠ s + 3; omega, fun i i' off v v' h1 h2 => (wres_off h1).symm.trans (wres_off h2), by show 4 < 1000000; omega⟩
 have blt : ∀ b, fblk (some ⟨A, ao, none⟩) hs b → b < s := by
  intro b hb
  rw [← es]
  rcases hb with hb | ⟨i, x, hx, hb⟩
  · exact hf.row.lt (by
     intro e
     have hl := hdrs_len f hs hf.len
     rw [e, h4] at hl
     simp at hl) hb
  · have hi : i < f.length := by rw [← hf.len]; exact (List.getElem?_eq_some_iff.1 hx).1
    obtain ⟨bk, hbk⟩ := get_some (l := f) (k := i) hi
    have hl := hp4 bk (List.mem_of_getElem? hbk)
    exact (hf.pg i bk x hbk hx).1.lt (pgs_ne (by intro e; rw [e] at hl; simp at hl)) hb
 have hro : ∀ b, fblk (some ⟨A, ao, none⟩) hs b → Φ.Ro b := fun b hb => by
  have := blt b hb
  refine ⟨?_, ?_, ?_, hN b hb⟩
  · show b < s + 4; omega
  · show b ≠ s + 1; omega
  · show b ≠ s + 3; omega
 have nSB : ∀ b, s ≤ b → ¬ SB b := fun b hb h => by have := hSB b h; omega
 have oldc : ∀ w', Φ.Old w' → ∀ b, fblk (some ⟨A, ao, none⟩) hs b → ∀ j, w'.cell? ⟨b, j, none⟩ = w0.cell? ⟨b, j, none⟩ := fun w' ho b hb j => by
  obtain ⟨h1, h2, h3, _⟩ := hro b hb
  exact World.cell?_of_block (a := ⟨b, j, none⟩) ((ho b h1 h2 h3).trans (hold b (blt b hb)))
 have hwk : ∀ k : Nat, k < 4 → ∀ I (S : Nat → Prop) w, S I → Φ.KB [(I, .cells #[.int .i64 (k : Int)] 3)] w → Φ.Loc Try.prog k 7 S 25 (born Try.prog (callW Φ.Wg s I (s + 2))) w := by
  intro k hk I S w' hI hKB
  obtain ⟨bk, hbk⟩ := get_some (l := f) (k := k) (by omega)
  have hl := hp4 bk (List.mem_of_getElem? hbk)
  obtain ⟨x, hx, c1, c2, _, _, hrow, _⟩ := hf.at_ hbk
  have hne : pgs bk.pages ≠ [] := pgs_ne (by intro e; rw [e] at hl; simp at hl)
  obtain ⟨pb, po, hxe, hcell⟩ := hrow hne
  obtain ⟨xa, xc⟩ := x
  simp only at hxe
  subst hxe
  rw [hl] at c1
  have bA : fblk (some ⟨A, ao, none⟩) hs A := .inl rfl
  have bP : fblk (some ⟨A, ao, none⟩) hs pb := .inr ⟨k, _, hx, rfl⟩
  refine worker (Φ := Φ) (F := s) (I := I) (O := s + 2) (A := A) (ao := ao) (k := k) (n := 4) (c := c) (pb := pb) (po := po) (pc := xc) (wn := bk.worn) (ps := bk.pages) ⟨kk, ?_, ?_, hro A bA, hro pb bP, ?_, ?_, ?_, ?_, ?_, hl, hk, by omega, rfl, rfl, wres_some hbk⟩ hI hKB
  · exact ⟨by show s < s + 4; omega, by show s ≠ s + 1; omega, by show s ≠ s + 3; omega, nSB s (Nat.le_refl _)⟩
  · exact ⟨by show s + 2 < s + 4; omega, by show s + 2 ≠ s + 1; omega, by show s + 2 ≠ s + 3; omega, nSB _ (by omega)⟩
  · intro w' ho
    have := ho s (by show s < s + 4; omega) (by show s ≠ s + 1; omega) (by show s ≠ s + 3; omega)
    have e : Φ.h0[s]? = some (.cells #[.slice (some ⟨A, ao, none⟩) 4 c] 25) := hF0
    rw [e] at this
    simp [World.cell?, this]
  · intro w' ho
    have := ho (s + 2) (by show s + 2 < s + 4; omega) (by show s + 2 ≠ s + 1; omega) (by show s + 2 ≠ s + 3; omega)
    have e : Φ.h0[s + 2]? = some (.cells #[.slice (some ⟨s + 1, 0, none⟩) 4 4] 52) := hF2
    rw [e] at this
    simp [World.cell?, this, Φ]
  · exact fun w' ho => (oldc w' ho A bA _).trans c1
  · exact fun w' ho => (oldc w' ho A bA _).trans c2
  · exact fun w' ho j v hv => (oldc w' ho pb bP _).trans (hcell j v hv).1
 have hwg : WgAt link.tWg (s + 3) w 0 0 := hF3
 have hpay : Φ.Pay w := ⟨_, hF1, rfl⟩
 refine FineB.phase (Φ := Φ) (K := KX Φ (s + 2) (cc :: cs)) (An := AnX Φ (s + 2) (cc :: cs)) kk (fun g w h => AnX.run h) (fun g w h => AnX.round kk rfl h) (Nat.le_refl _) (by show 0 < 4; omega) ?_ hwg hpay (fun b h1 h2 h3 => rfl) (by show s + 4 ≤ w.heap.size; omega) ?_
 · intro T' d'
   exact SpStop.spawn (spawns (n := 4) (F := s) kk rfl rfl (by omega) hwk 4 0 rfl T (tp w T' d') hT t1 t3 t4 t10 t11 ⟨⟨fun b h1 h2 h3 => rfl, hpay, by show s + 4 ≤ w.heap.size; omega, by simp, by simp⟩, ⟨0, 0, hwg⟩⟩)
 · rintro g' w' ⟨T', hT', t3', m, hm⟩ ⟨ca, hca, hcs⟩ hold' hwg' hn0' hhas hos' hout'
   have hn0 : s + 4 ≤ w'.heap.size := hn0'
   refine FineB.goes (R := Φ.R none') (fun w T d => ⟨fun _ _ => rfl, id, id, id, id⟩) m g' w' (hm w' ⟨⟨hold', ⟨ca, hca, hcs⟩, hn0', by simp, by simp⟩, ⟨0, 0, hwg'⟩⟩) ?_
   have hO := hold' (s + 2) (by show s + 2 < s + 4; omega) (by show s + 2 ≠ s + 1; omega) (by show s + 2 ≠ s + 3; omega)
   have e : Φ.h0[s + 2]? = some (.cells #[.slice (some ⟨s + 1, 0, none⟩) 4 4] 52) := hF2
   rw [e] at hO
   refine we1 (s := s + 2) (C := s + 1) hT' t3' (by omega) (fun h => h.elim (nSB _ (by omega)) (fun h => by have h : s + 2 = s + 3 := h; omega)) (by simp [World.cell?, hO]) ?_
   refine next w' hn0 (fun b hb => ?_) ?_ (hos'.trans hos) (hout'.trans hout)
   · exact (hold' b (by show b < s + 4; omega) (by show b ≠ s + 1; omega) (by show b ≠ s + 3; omega)).trans (hold b hb)
   · show w'.heap[Φ.C]? = _
     have hca' : w'.heap[Φ.C]? = some (.cells ca 55) := hca
     rw [hca']
     have hcs8 : ca.size = 8 := hcs
     have hlen : (wears f).length = 8 := by
      have := flat_len (fun b : Bk => [.int .i64 b.worn, .int .i64 (tornN b.pages : Int)]) 2 (fun _ => rfl) f
      rw [h4] at this
      exact this
     have : ca = (wears f).toArray := by
      apply Array.ext_getElem?
      intro i
      rcases Nat.lt_or_ge i 8 with hlt | hge
      · obtain ⟨bk, hbk⟩ := get_some (l := f) (k := i / 2) (by omega)
        have h1 := hhas (i / 2) (by show i / 2 < 4; omega)
        have e2 : Φ.res (i / 2) = _ := wres_some hbk
        unfold Ph.Has at h1
        rw [e2] at h1
        have cellC : ∀ j, w'.cell? ⟨Φ.C, j, none⟩ = ca[j]? := fun j => by simp [World.cell?, hca']
        have g0 := flat_get (fun b : Bk => [Value.int .i64 b.worn, .int .i64 (tornN b.pages : Int)]) 2 (fun _ => rfl) f (i / 2) (i % 2) bk hbk (by omega)
        rw [show i / 2 * 2 + i % 2 = i by omega] at g0
        show ca[i]? = (wears f).toArray[i]?
        have gw : (wears f).toArray[i]? = _ := (List.getElem?_toArray ..).trans g0
        rw [gw]
        rcases (by omega : i % 2 = 0 ∨ i % 2 = 1) with h | h
        · have := h1 (i / 2 * 2, .int .i64 bk.worn) (List.mem_cons_self ..)
          simp only [cellC] at this
          rw [show i / 2 * 2 = i by omega] at this
          rw [this, h]; rfl
        · have := h1 (i / 2 * 2 + 1, .int .i64 (tornN bk.pages : Int)) (List.mem_cons_of_mem _ (List.mem_cons_self ..))
          simp only [cellC] at this
          rw [show i / 2 * 2 + 1 = i by omega] at this
          rw [this, h]; rfl
      · rw [Array.getElem?_eq_none (by omega), Array.getElem?_eq_none (by simp; omega)]
     rw [this]
end
end Go.Proofs.Ytclnogfmmekooaa
namespace Go.Proofs.Ytclnogfmmekooaa
set_option linter.unusedVariables false
set_option linter.unusedSimpArgs false
open Go.Conc
/-- The functions that may be called beside leavers. -/
def goodL : List Nat := [11, 12, 13, 15, 16, 18, 19, 21, 22, 23, 24, 25, 26, 27, 28, 29, 30, 31, 33, 34, 35, 36, 37, 38, 39, 40, 41, 42, 43, 44, 45, 46, 47, 48, 49, 53, 55, 56, 57, 58, 59, 60, 61, 62, 63, 64, 65, 66, 85, 86, 87, 88, 89, 95, 96, 97, 98, 99, 100, 101, 102, 103, 104, 105, 106, 107, 108, 109, 110, 111, 112, 113, 114, 115, 116]
def goodF (f : Nat) : Bool := goodL.contains f
def good (d : Option (Nat × Nat × Nat)) : Cfg := ⟨goodF, d⟩
def FnGood (f : Nat) : Prop := ∃ fn c, Try.prog.funcs[f]? = some fn ∧ fn.body = some c ∧ codeOk Try.prog goodF c = true ∧ (fn.name == "runtime.NumGoroutine") = false
theorem g11 : FnGood 11 := ⟨Try.f11, _, Try.func11, rfl, by kernel_rfl, by decide⟩
theorem g12 : FnGood 12 := ⟨Try.f12, _, Try.func12, rfl, by kernel_rfl, by decide⟩
theorem g13 : FnGood 13 := ⟨Try.f13, _, Try.func13, rfl, by kernel_rfl, by decide⟩
theorem g15 : FnGood 15 := ⟨Try.f15, _, Try.func15, rfl, by kernel_rfl, by decide⟩
theorem g16 : FnGood 16 := ⟨Try.f16, _, Try.func16, rfl, by kernel_rfl, by decide⟩
theorem g18 : FnGood 18 := ⟨Try.f18, _, Try.func18, rfl, by kernel_rfl, by decide⟩
theorem g19 : FnGood 19 := ⟨Try.f19, _, Try.func19, rfl, by kernel_rfl, by decide⟩
theorem g21 : FnGood 21 := ⟨Try.f21, _, Try.func21, rfl, by kernel_rfl, by decide⟩
theorem g22 : FnGood 22 := ⟨Try.f22, _, Try.func22, rfl, by kernel_rfl, by decide⟩
theorem g23 : FnGood 23 := ⟨Try.f23, _, Try.func23, rfl, by kernel_rfl, by decide⟩
theorem g24 : FnGood 24 := ⟨Try.f24, _, Try.func24, rfl, by kernel_rfl, by decide⟩
theorem g25 : FnGood 25 := ⟨Try.f25, _, Try.func25, rfl, by kernel_rfl, by decide⟩
theorem g26 : FnGood 26 := ⟨Try.f26, _, Try.func26, rfl, by kernel_rfl, by decide⟩
theorem g27 : FnGood 27 := ⟨Try.f27, _, Try.func27, rfl, by kernel_rfl, by decide⟩
theorem g28 : FnGood 28 := ⟨Try.f28, _, Try.func28, rfl, by kernel_rfl, by decide⟩
theorem g29 : FnGood 29 := ⟨Try.f29, _, Try.func29, rfl, by kernel_rfl, by decide⟩
theorem g30 : FnGood 30 := ⟨Try.f30, _, Try.func30, rfl, by kernel_rfl, by decide⟩
theorem g31 : FnGood 31 := ⟨Try.f31, _, Try.func31, rfl, by kernel_rfl, by decide⟩
theorem g33 : FnGood 33 := ⟨Try.f33, _, Try.func33, rfl, by kernel_rfl, by decide⟩
theorem g34 : FnGood 34 := ⟨Try.f34, _, Try.func34, rfl, by kernel_rfl, by decide⟩
theorem g35 : FnGood 35 := ⟨Try.f35, _, Try.func35, rfl, by kernel_rfl, by decide⟩
theorem g36 : FnGood 36 := ⟨Try.f36, _, Try.func36, rfl, by kernel_rfl, by decide⟩
theorem g37 : FnGood 37 := ⟨Try.f37, _, Try.func37, rfl, by kernel_rfl, by decide⟩
theorem g38 : FnGood 38 := ⟨Try.f38, _, Try.func38, rfl, by kernel_rfl, by decide⟩
theorem g39 : FnGood 39 := ⟨Try.f39, _, Try.func39, rfl, by kernel_rfl, by decide⟩
theorem g40 : FnGood 40 := ⟨Try.f40, _, Try.func40, rfl, by kernel_rfl, by decide⟩
theorem g41 : FnGood 41 := ⟨Try.f41, _, Try.func41, rfl, by kernel_rfl, by decide⟩
theorem g42 : FnGood 42 := ⟨Try.f42, _, Try.func42, rfl, by kernel_rfl, by decide⟩
theorem g43 : FnGood 43 := ⟨Try.f43, _, Try.func43, rfl, by kernel_rfl, by decide⟩
theorem g44 : FnGood 44 := ⟨Try.f44, _, Try.func44, rfl, by kernel_rfl, by decide⟩
theorem g45 : FnGood 45 := ⟨Try.f45, _, Try.func45, rfl, by kernel_rfl, by decide⟩
theorem g46 : FnGood 46 := ⟨Try.f46, _, Try.func46, rfl, by kernel_rfl, by decide⟩
theorem g47 : FnGood 47 := ⟨Try.f47, _, Try.func47, rfl, by kernel_rfl, by decide⟩
theorem g48 : FnGood 48 := ⟨Try.f48, _, Try.func48, rfl, by kernel_rfl, by decide⟩
theorem g49 : FnGood 49 := ⟨Try.f49, _, Try.func49, rfl, by kernel_rfl, by decide⟩
theorem g53 : FnGood 53 := ⟨Try.f53, _, Try.func53, rfl, by kernel_rfl, by decide⟩
theorem g55 : FnGood 55 := ⟨Try.f55, _, Try.func55, rfl, by kernel_rfl, by decide⟩
theorem g56 : FnGood 56 := ⟨Try.f56, _, Try.func56, rfl, by kernel_rfl, by decide⟩
theorem g57 : FnGood 57 := ⟨Try.f57, _, Try.func57, rfl, by kernel_rfl, by decide⟩
theorem g58 : FnGood 58 := ⟨Try.f58, _, Try.func58, rfl, by kernel_rfl, by decide⟩
theorem g59 : FnGood 59 := ⟨Try.f59, _, Try.func59, rfl, by kernel_rfl, by decide⟩
theorem g60 : FnGood 60 := ⟨Try.f60, _, Try.func60, rfl, by kernel_rfl, by decide⟩
theorem g61 : FnGood 61 := ⟨Try.f61, _, Try.func61, rfl, by kernel_rfl, by decide⟩
theorem g62 : FnGood 62 := ⟨Try.f62, _, Try.func62, rfl, by kernel_rfl, by decide⟩
theorem g63 : FnGood 63 := ⟨Try.f63, _, Try.func63, rfl, by kernel_rfl, by decide⟩
theorem g64 : FnGood 64 := ⟨Try.f64, _, Try.func64, rfl, by kernel_rfl, by decide⟩
theorem g65 : FnGood 65 := ⟨Try.f65, _, Try.func65, rfl, by kernel_rfl, by decide⟩
theorem g66 : FnGood 66 := ⟨Try.f66, _, Try.func66, rfl, by kernel_rfl, by decide⟩
theorem g85 : FnGood 85 := ⟨Try.f85, _, Try.func85, rfl, by kernel_rfl, by decide⟩
theorem g86 : FnGood 86 := ⟨Try.f86, _, Try.func86, rfl, by kernel_rfl, by decide⟩
theorem g87 : FnGood 87 := ⟨Try.f87, _, Try.func87, rfl, by kernel_rfl, by decide⟩
theorem g88 : FnGood 88 := ⟨Try.f88, _, Try.func88, rfl, by kernel_rfl, by decide⟩
theorem g89 : FnGood 89 := ⟨Try.f89, _, Try.func89, rfl, by kernel_rfl, by decide⟩
theorem g95 : FnGood 95 := ⟨Try.f95, _, Try.func95, rfl, by kernel_rfl, by decide⟩
theorem g96 : FnGood 96 := ⟨Try.f96, _, Try.func96, rfl, by kernel_rfl, by decide⟩
theorem g97 : FnGood 97 := ⟨Try.f97, _, Try.func97, rfl, by kernel_rfl, by decide⟩
theorem g98 : FnGood 98 := ⟨Try.f98, _, Try.func98, rfl, by kernel_rfl, by decide⟩
theorem g99 : FnGood 99 := ⟨Try.f99, _, Try.func99, rfl, by kernel_rfl, by decide⟩
theorem g100 : FnGood 100 := ⟨Try.f100, _, Try.func100, rfl, by kernel_rfl, by decide⟩
theorem g101 : FnGood 101 := ⟨Try.f101, _, Try.func101, rfl, by kernel_rfl, by decide⟩
theorem g102 : FnGood 102 := ⟨Try.f102, _, Try.func102, rfl, by kernel_rfl, by decide⟩
theorem g103 : FnGood 103 := ⟨Try.f103, _, Try.func103, rfl, by kernel_rfl, by decide⟩
theorem g104 : FnGood 104 := ⟨Try.f104, _, Try.func104, rfl, by kernel_rfl, by decide⟩
theorem g105 : FnGood 105 := ⟨Try.f105, _, Try.func105, rfl, by kernel_rfl, by decide⟩
theorem g106 : FnGood 106 := ⟨Try.f106, _, Try.func106, rfl, by kernel_rfl, by decide⟩
theorem g107 : FnGood 107 := ⟨Try.f107, _, Try.func107, rfl, by kernel_rfl, by decide⟩
theorem g108 : FnGood 108 := ⟨Try.f108, _, Try.func108, rfl, by kernel_rfl, by decide⟩
theorem g109 : FnGood 109 := ⟨Try.f109, _, Try.func109, rfl, by kernel_rfl, by decide⟩
theorem g110 : FnGood 110 := ⟨Try.f110, _, Try.func110, rfl, by kernel_rfl, by decide⟩
theorem g111 : FnGood 111 := ⟨Try.f111, _, Try.func111, rfl, by kernel_rfl, by decide⟩
theorem g112 : FnGood 112 := ⟨Try.f112, _, Try.func112, rfl, by kernel_rfl, by decide⟩
theorem g113 : FnGood 113 := ⟨Try.f113, _, Try.func113, rfl, by kernel_rfl, by decide⟩
theorem g114 : FnGood 114 := ⟨Try.f114, _, Try.func114, rfl, by kernel_rfl, by decide⟩
theorem g115 : FnGood 115 := ⟨Try.f115, _, Try.func115, rfl, by kernel_rfl, by decide⟩
theorem g116 : FnGood 116 := ⟨Try.f116, _, Try.func116, rfl, by kernel_rfl, by decide⟩
def AllGood : List Nat → Prop
 | [] => True
 | f :: l => FnGood f ∧ AllGood l
theorem AllGood.mem : ∀ {l : List Nat} {f : Nat}, AllGood l → f ∈ l → FnGood f
 | [], _, _, h => by cases h
 | g :: l, f, h, hm => (List.mem_cons.1 hm).elim (fun e => e ▸ h.1) fun hm => AllGood.mem h.2 hm
theorem cleanP (d : Option (Nat × Nat × Nat)) : Clean1 Try.prog (good d) := by
 refine ⟨fun f hf => AllGood.mem (l := goodL) ⟨g11, g12, g13, g15, g16, g18, g19, g21, g22, g23, g24, g25, g26, g27, g28, g29, g30, g31, g33, g34, g35, g36, g37, g38, g39, g40, g41, g42, g43, g44, g45, g46, g47, g48, g49, g53, g55, g56, g57, g58, g59, g60, g61, g62, g63, g64, g65, g66, g85, g86, g87, g88, g89, g95, g96, g97, g98, g99, g100, g101, g102, g103, g104, g105, g106, g107, g108, g109, g110, g111, g112, g113, g114, g115, g116, trivial⟩ (by simpa [good, goodF] using hf), fun t i v ht hi hv => ?_⟩
 have h : (Try.prog.types.toList.all fun i => match i.zero with | some v => plainV v | none => true) = true := by kernel_rfl
 rw [List.all_eq_true] at h
 have := h i (Array.mem_toList_iff.2 (Array.mem_of_getElem? hi))
 rw [hv] at this
 exact this
end Go.Proofs.Ytclnogfmmekooaa
namespace Go.Proofs.Ytclnogfmmekooaa
set_option linter.unusedVariables false
set_option linter.unusedSimpArgs false
open Go.Conc Go.ConcN Go.ConcR.Gen Go.RowKit
/-- Makes memory only, whatever the tape. -/
structure Bel (w w' : World) : Prop where
 os : w'.os = w.os
 output : w'.output = w.output
 size : w.heap.size ≤ w'.heap.size
 block : ∀ b, b < w.heap.size → w'.heap[b]? = w.heap[b]?
theorem Bel.refl (w : World) : Bel w w := ⟨rfl, rfl, Nat.le_refl _, fun _ _ => rfl⟩
theorem Bel.trans {a b c : World} (h : Bel a b) (k : Bel b c) : Bel a c := ⟨k.os.trans h.os, k.output.trans h.output, Nat.le_trans h.size k.size, fun x hx => (k.block x (Nat.lt_of_lt_of_le hx h.size)).trans (h.block x hx)⟩
theorem Bel.of_below {B : Nat} {w w1 w' : World} (h : Below B w w') (hB : w1.heap.size ≤ B) (hh : w.heap = w1.heap) (ho : w.os = w1.os) (hp : w.output = w1.output) (hs : w1.heap.size ≤ w'.heap.size) : Bel w1 w' := ⟨h.os.trans ho, h.output.trans hp, hs, fun b hb => by rw [← hh]; exact h.block b (by omega)⟩
theorem Bel.more {a w w' : World} (h : Bel a w) (hs : w'.heap.size = w.heap.size) (ho : w'.os = w.os) (hp : w'.output = w.output) (hb : ∀ b, b < a.heap.size → w'.heap[b]? = w.heap[b]?) : Bel a w' := ⟨ho.trans h.os, hp.trans h.output, by rw [hs]; exact h.size, fun b x => (hb b x).trans (h.block b x)⟩
theorem Bel.bl {w w' : World} (h : Bel w w') : Below w.heap.size w { w' with tape := w.tape } := ⟨h.os, rfl, h.output, h.size, h.block⟩
theorem Bel.cell {w w' : World} (h : Bel w w') {b : Nat} (hb : b < w.heap.size) (j : Nat) : w'.cell? ⟨b, j, none⟩ = w.cell? ⟨b, j, none⟩ := World.cell?_of_block (a := ⟨b, j, none⟩) (h.block b hb)
theorem Fl.bel {w w' : World} {A : Option Addr} {f : List Bk} (h : Fl w A f) (k : Bel w w') : Fl w' A f := by
 obtain ⟨hs, h⟩ := h
 exact ⟨hs, h.keep fun b _ hl => k.block b hl⟩
theorem Bel.tp (w : World) (T : Nat → Question → Nat) (d : Nat) : Bel w (Go.Proofs.Ytclnogfmmekooaa.tp w T d) := ⟨rfl, rfl, Nat.le_refl _, fun _ _ => rfl⟩
theorem Bel.pt (w : World) (T : Nat → Question → Nat) (d : Nat) : Bel (Go.Proofs.Ytclnogfmmekooaa.tp w T d) w := ⟨rfl, rfl, Nat.le_refl _, fun _ _ => rfl⟩
/-- What is held of the world: A is closed, apart from what is shunned; what was there at the call stands. -/
structure Co (G : Cfg) (SB A : Nat → Prop) (w0 w : World) : Prop where
 hin : HIn Try.prog G A (cutW G w)
 away : Away SB A (cutW G w)
 bel : Bel w0 w
section
variable {G : Cfg} {SB A : Nat → Prop} {w0 w : World} {Post : Value → World → Prop}
theorem Co.tp (h : Co G SB A w0 w) (T : Nat → Question → Nat) (d : Nat) : Co G SB A w0 (tp w T d) := by
 have e : cutW G (Go.Proofs.Ytclnogfmmekooaa.tp w T d) = Go.Proofs.Ytclnogfmmekooaa.tp (cutW G w) T d := cut_tp G w T d
 exact ⟨by rw [e]; exact h.hin.tp T d, by rw [e]; exact h.away, ⟨h.bel.os, h.bel.output, h.bel.size, h.bel.block⟩⟩
theorem Co.dead (h : Co G SB A w0 w) : ∀ c l hi, G.dead = some (c, l, hi) → c < w.heap.size := cut_there h.hin.there
theorem Co.lt (h : Co G SB A w0 w) {b : Nat} (hb : A b) : b < w.heap.size := by have := h.hin.lt hb; rwa [cut_size] at this
theorem Co.shun (h : Co G SB A w0 w) {b : Nat} (hb : SB b) : b < w.heap.size := by have := (h.away b hb).2; rwa [cut_size] at this
theorem Co.push (h : Co G SB A w0 w) (o : Obj) : Co G SB A w0 { w with heap := w.heap.push o } := by
 have e := cut_push h.dead o
 have hs : (cutW G { w with heap := w.heap.push o }).heap.size = (cutW G w).heap.size + 1 := by rw [cut_size, cut_size]; simp
 refine ⟨⟨fun r hr => ?_, fun c l hi x => by rw [hs]; have := h.hin.there c l hi x; omega⟩, fun b hb => ⟨(h.away b hb).1, by rw [hs]; have := (h.away b hb).2; omega⟩, h.bel.trans ⟨rfl, rfl, by simp, fun b hb => getElem?_push_old _ _ hb⟩⟩
 obtain ⟨x, hx, hin⟩ := h.hin.obj r hr
 refine ⟨x, ?_, hin⟩
 rw [e]
 show ((cutW G w).heap.push o)[r]? = _
 rw [getElem?_push_old _ _ (h.hin.lt hr)]
 exact hx
theorem Co.setCell (h : Co G SB A w0 w) {b : Nat} (j : Nat) (v : Value) (hA : ¬ A b) (hb : w0.heap.size ≤ b) : Co G SB A w0 (w.setCell ⟨b, j, none⟩ v) := by
 have e := cut_setCell (G := G) (w := w) ⟨b, j, none⟩ v
 have hs : (cutW G (w.setCell ⟨b, j, none⟩ v)).heap.size = (cutW G w).heap.size := by rw [cut_size, cut_size]; simp [World.setCell]
 refine ⟨⟨fun r hr => ?_, fun c l hi x => by rw [hs]; exact h.hin.there c l hi x⟩, fun b hb => ⟨(h.away b hb).1, by rw [hs]; exact (h.away b hb).2⟩, h.bel.more (by simp [World.setCell]) rfl rfl fun x hx => ?_⟩
 · obtain ⟨x, hx, hin⟩ := h.hin.obj r hr
   refine ⟨x, ?_, hin⟩
   rw [e]
   exact (Below.heap_setCell _ ⟨b, j, none⟩ v r (fun x => hA (by rw [show b = r from x.symm]; exact hr))).trans hx
 · exact Below.heap_setCell _ ⟨b, j, none⟩ v x (by show x ≠ b; omega)
/-- What is held stays so while nothing that is held turns. -/
theorem Co.keep {w' : World} (h : Co G SB A w0 w) (k : Bel w w') : Co G SB A w0 w' := by
 have hs : (cutW G w).heap.size ≤ (cutW G w').heap.size := by rw [cut_size, cut_size]; exact k.size
 refine ⟨⟨fun r hr => ?_, fun c l hi x => Nat.lt_of_lt_of_le (h.hin.there c l hi x) hs⟩, fun b hb => ⟨(h.away b hb).1, Nat.lt_of_lt_of_le (h.away b hb).2 hs⟩, h.bel.trans k⟩
 obtain ⟨x, hx, hin⟩ := h.hin.obj r hr
 refine ⟨x, ?_, hin⟩
 rw [← hx]
 have hr' := h.lt hr
 unfold cutW
 split
 · show (w'.heap.modify _ _)[r]? = (w.heap.modify _ _)[r]?
   simp only [Array.getElem?_modify, k.block r hr']
 · exact k.block r hr'
theorem Bel.cut {w' : World} (k : Bel w w') : Bel (cutW G w) (cutW G w') := by
 refine ⟨by rw [cut_os, cut_os, k.os], by rw [cut_output, cut_output, k.output], by rw [cut_size, cut_size]; exact k.size, fun b hb => ?_⟩
 rw [cut_size] at hb
 unfold cutW
 split
 · show (w'.heap.modify _ _)[b]? = (w.heap.modify _ _)[b]?
   simp only [Array.getElem?_modify, k.block b hb]
 · exact k.block b hb
theorem Bel.uncut {w' : World} (k : Bel (cutW G w) (cutW G w')) (ht : Tail G w w') : Bel w w' := by
 refine ⟨by have := k.os; rwa [cut_os, cut_os] at this, by have := k.output; rwa [cut_output, cut_output] at this, by have := k.size; rwa [cut_size, cut_size] at this, fun b hb => ht.same (k.block b (by rw [cut_size]; exact hb))⟩
end
section
variable {SB A : Nat → Prop} {w0 w : World} {Post : Value → World → Prop}
/-! ### the words -/
variable {g g' : Goroutine} {b : Frame} {a : Act} {k : List Item} {cs : List Frame} {ops : Array Oper} {j : Nat} {rest : List Nat} {o : Oper} {v : Value} {P : Program} {F F' : World → Prop}
theorem Fine.tp (h : Fine P Post SB g w) (T : Nat → Question → Nat) (d : Nat) : Fine P Post SB g (tp w T d) := fun T' d' => h T' d'
theorem f_ctl (hr : g.status = .running) (h : ∀ w, stepG P true g w = .go g' w #[]) (next : Fine P Post SB g' w) : Fine P Post SB g w := fb_ctl hr h next
theorem f_val (hT : ∀ w T d, F w → F (tp w T d)) (hF : F w) (ho : ops[j]? = some o) (hw : Region.wanted o (yielded ops a.tmps) = true) (hk : b.kind ≠ .early)
 (hrun : ∀ w, F w → (execOp a.eval o).run P w = .ok (.value v) w ∧ ∀ e ∈ listed P b.fn a o w, EvF SB w.heap.size e)
 (next : Fine P Post SB (G (b.at (a.put o.dst v) (.inRegion ops rest :: k)) cs) w) : Fine P Post SB (G (b.at a (.inRegion ops (j :: rest) :: k)) cs) w :=
 Fine.step rfl fun T d => ⟨_, Go.Proofs.Ytclnogfmmekooaa.tp w T d, _, stepG_value ho hw hk (hrun _ (hT w T d hF)).1, Nat.le_refl _, (hrun _ (hT w T d hF)).2, next.tp T d⟩
theorem f_skip (ho : ops[j]? = some o) (hw : Region.wanted o (yielded ops a.tmps) = false)
 (next : Fine P Post SB (G (b.at (a.put o.dst undef) (.inRegion ops rest :: k)) cs) w) : Fine P Post SB (G (b.at a (.inRegion ops (j :: rest) :: k)) cs) w :=
 f_ctl rfl (fun w => by rw [stepG_unwanted ho hw]) next
theorem f_new (hT : ∀ w T d, F w → F (tp w T d)) (hF : F w) (ho : ops[j]? = some o) (hw : Region.wanted o (yielded ops a.tmps) = true) (hk : b.kind ≠ .early) (v : Nat → Value) (ob : Obj)
 (hrun : ∀ w, F w → (execOp a.eval o).run P w = .ok (.value (v w.heap.size)) { w with heap := w.heap.push ob } ∧ listed P b.fn a o w = #[])
 (next : ∀ w, F w → Fine P Post SB (G (b.at (a.put o.dst (v w.heap.size)) (.inRegion ops rest :: k)) cs) { w with heap := w.heap.push ob }) : Fine P Post SB (G (b.at a (.inRegion ops (j :: rest) :: k)) cs) w :=
 Fine.step rfl fun T d => by
  have hF' := hT w T d hF
  obtain ⟨h1, h2⟩ := hrun _ hF'
  exact ⟨_, _, #[], (stepG_value ho hw hk h1).trans (by rw [h2]), by simp only [Array.size_push]; exact Nat.le_succ _, by simp, next _ hF'⟩
theorem f_set (hT : ∀ w T d, F w → F (tp w T d)) (hF : F w) (ho : ops[j]? = some o) (hw : Region.wanted o (yielded ops a.tmps) = true) (hk : b.kind ≠ .early) (f : World → World)
 (hrun : ∀ w, F w → (execOp a.eval o).run P w = .ok .skip (f w) ∧ (f w).heap.size = w.heap.size ∧ (∀ e ∈ listed P b.fn a o w, EvF SB w.heap.size e) ∧ F' (f w))
 (next : ∀ w, F' w → Fine P Post SB (G (b.at (a.put o.dst undef) (.inRegion ops rest :: k)) cs) w) : Fine P Post SB (G (b.at a (.inRegion ops (j :: rest) :: k)) cs) w :=
 Fine.step rfl fun T d => by
  obtain ⟨h1, h2, h3, h4⟩ := hrun _ (hT w T d hF)
  exact ⟨_, _, _, stepG_none ho hw hk h1, by rw [h2]; exact Nat.le_refl _, by rw [h2]; exact h3, next _ h4⟩
theorem f_enter {f : FuncId} {fn : Func} {c : Code} {args : Array Operand} {ats : Array TypeId} (ho : ops[j]? = some o) (hw : Region.wanted o (yielded ops a.tmps) = true) (hk : b.kind ≠ .early) (hop : o.op = .call { callee := .value (.func f), args, argTypes := ats })
 (hf : P.funcs[f]? = some fn) (hname : (fn.name == "runtime.NumGoroutine") = false) (hb : fn.body = some c)
 (next : Fine P Post SB (G (Frame.enter P f (args.map a.eval) .normal) (b.at a (.inRegion ops (j :: rest) :: k) :: cs)) w) : Fine P Post SB (G (b.at a (.inRegion ops (j :: rest) :: k)) cs) w :=
 f_ctl rfl (fun w => by
  obtain ⟨g', w', es, e, rfl, rfl, rfl⟩ := goes_elim (goes_call (P := P) (main := true) (cs := cs) (k := k) (b := b) (a := a) (w := w) (rest := rest) (K := fun g' w' es => g' = G (Frame.enter P f (args.map a.eval) .normal) (b.at a (.inRegion ops (j :: rest) :: k) :: cs) ∧ w' = w ∧ es = #[]) ho hw hk hop hf hname hb ⟨by rw [enter_at _ hf hb], rfl, rfl⟩)
  exact e) next
theorem f_leave {c : Frame} {todo : List Item} {fn : Func} (hn : b.kind = .normal) (hd : a.defers = []) (hf : P.funcs[b.fn]? = some fn)
 (hrun : ∀ w, (results fn a.tmps).run P w = .ok v w ∧ seen P b.fn ((results fn a.tmps).events P w #[]) = #[])
 (next : Fine P Post SB (G (c.finish v) cs) w) : Fine P Post SB (G { b.at a todo with mode := .returning } (c :: cs)) w := fb_leave hn hd hf hrun next
/-- A lone contract. -/
theorem Co.call {Gd : Option (Nat × Nat × Nat)} {f : FuncId} {args : Array Value} {R : Value → World → Prop} {c : Frame} {rest : List Frame} (co : Co (good Gd) SB A w0 w) (hR : ∀ v w T d, R v (Go.Proofs.Ytclnogfmmekooaa.tp w T d) → R v w) (hf : goodF f = true) (ha : ∀ v ∈ args, VIn (good Gd) A v)
 (hc : ∀ T d, Calls Try.prog f args (Go.Proofs.Ytclnogfmmekooaa.tp (cutW (good Gd) w) T d) fun e w' => ∃ v, e = .returned v ∧ R v w' ∧ Below (cutW (good Gd) w).heap.size (Go.Proofs.Ytclnogfmmekooaa.tp (cutW (good Gd) w) T d) w')
 (next : ∀ A' v w', (∀ b, A b → A' b) → Co (good Gd) SB A' w0 w' → Bel w w' → VIn (good Gd) A' v → R v (cutW (good Gd) w') → Fine Try.prog Post SB (G (c.finish v) rest) w') : Fine Try.prog Post SB (G (Frame.enter Try.prog f args .normal) (c :: rest)) w := by
 refine Fine.call (P := Try.prog) (G := good Gd) (A := A) (wR := w) (cleanP Gd) (Q := fun v w' => R v w' ∧ Bel (cutW (good Gd) w) w') hf ha co.hin co.away (fun v w T d h => ⟨hR v w T d h.1, ⟨h.2.os, h.2.output, h.2.size, h.2.block⟩⟩) (fun T d => (hc T d).mono fun e w' ⟨v, h1, h2, h3⟩ => ⟨v, h1, h2, ⟨h3.os, h3.output, h3.size, h3.block⟩⟩) ?_
 intro A' v w' ht hk hh hv hq
 have hb := Bel.uncut hq.2 ht
 exact next A' v w' hk.grow ⟨hh, co.away.kept hk, co.bel.trans hb⟩ hb hv hq.1
/-- What lies in a flash lies within the set. -/
theorem fblk_in {Gc : Cfg} {ad : Option Addr} {f : List Bk} {hs : List (Option Addr × Nat)} {n c : Nat} (hin : HIn Try.prog Gc A w) (hv : VIn Gc A (.slice ad n c)) (hf : Bks w ad f hs) (hne : f ≠ []) (hp : ∀ b ∈ f, b.pages ≠ []) : ∀ b, fblk ad hs b → A b := by
 obtain ⟨bk, off, rfl⟩ := hf.addr hne
 have hA : Ina Gc A ⟨bk, off, none⟩ := by cases hv; assumption
 rintro b (hb | ⟨i, x, hx, hb⟩)
 · rw [← blk_some.1 hb]; exact hA.blk
 · have hi : i < f.length := by rw [← hf.len]; exact (List.getElem?_eq_some_iff.1 hx).1
   obtain ⟨b', hb'⟩ := get_some hi
   obtain ⟨x', hx', c1, _⟩ := hf.at_ hb'
   rw [hx] at hx'; cases hx'
   have hv1 := cell_in hin (a := ⟨bk, off + i * 2, none⟩) ⟨hA.blk, Nat.le_trans hA.low (Nat.le_add_right _ _)⟩ c1
   obtain ⟨xa, xc⟩ := x
   simp only at hb hv1
   cases xa with
   | none => cases hb
   | some ad => cases hv1; rename_i h; cases hb; exact h.blk
/-- impl.wearEach. -/
theorem Co.wearEach {Gd : Option (Nat × Nat × Nat)} {ad : Option Addr} {f : List Bk} {c : Nat} {cc : Frame} {rest : List Frame} (co : Co (good Gd) SB A w0 w) (hv : VIn (good Gd) A (.slice ad 4 c)) (hf : Fl (cutW (good Gd) w) ad f) (h4 : f.length = 4) (hp4 : ∀ b ∈ f, b.pages.length = 4)
 (next : ∀ w' C W, Co (good Gd) (fun b => SB b ∨ b = W) (fun b => A b ∨ b = C) w0 w' → Bel w w' → w0.heap.size ≤ C → w'.heap[C]? = some (.cells (wears f).toArray 55) →
  Fine Try.prog Post (fun b => SB b ∨ b = W) (G (cc.finish (.slice (some ⟨C, 0, none⟩) 4 4)) rest) w') :
 Fine Try.prog Post SB (G (Frame.enter Try.prog 32 #[.slice ad 4 c] .normal) (cc :: rest)) w := by
 obtain ⟨hs, hf⟩ := hf
 have hne : f ≠ [] := by rintro rfl; simp at h4
 have hpn : ∀ b ∈ f, b.pages ≠ [] := fun b hb e => by have := hp4 b hb; rw [e] at this; simp at this
 have hin := fblk_in co.hin hv hf hne hpn
 obtain ⟨bk, off, rfl⟩ := hf.addr hne
 have hfR : Bks w (some ⟨bk, off, none⟩) f hs := ⟨hf.len, fun hn => let ⟨b, o, e, hc⟩ := hf.row hn; ⟨b, o, e, fun j u hj => ⟨cut_cell (hc j u hj).1, by rw [← cut_frozen (G := good Gd)]; exact (hc j u hj).2⟩⟩,
  fun i b x hb hx => ⟨fun hn => let ⟨b', o, e, hc⟩ := (hf.pg i b x hb hx).1 hn; ⟨b', o, e, fun j u hj => ⟨cut_cell (hc j u hj).1, by rw [← cut_frozen (G := good Gd)]; exact (hc j u hj).2⟩⟩, (hf.pg i b x hb hx).2⟩⟩
 refine Fine.wearEach hfR h4 hp4 (fun b hb => co.shun hb) (fun b hb h => (co.away b h).1 (hin b hb)) fun w' h1 h2 h3 h5 h6 => ?_
 have hb : Bel w w' := ⟨h5, h6, by omega, h2⟩
 have co' := co.keep hb
 have hdC : (cutW (good Gd) w').heap[w.heap.size + 1]? = some (.cells (wears f).toArray 55) := by
  rw [cut_other]
  · exact h3
  · intro c l hi e x
    have := co.dead c l hi e
    omega
 refine next w' (w.heap.size + 1) (w.heap.size + 3) ⟨⟨fun r hr => ?_, co'.hin.there⟩, fun b hb' => ?_, co'.bel⟩ hb (by have := co.bel.size; omega) h3
 · rcases hr with hr | rfl
   · obtain ⟨x, hx, hxin⟩ := co'.hin.obj r hr
     exact ⟨x, hx, hxin.mono fun _ z => .inl z⟩
   · refine ⟨_, hdC, .all fun v hv => ?_⟩
     simp only [wears, List.mem_toArray, List.mem_flatMap, List.mem_cons, List.not_mem_nil, or_false] at hv
     obtain ⟨b, _, rfl | rfl⟩ := hv <;> exact .int _ _
 · rw [cut_size]
   rcases hb' with hb' | rfl
   · have := co'.away b hb'
     have h9 := co.shun hb'
     rw [cut_size] at this
     exact ⟨fun x => x.elim this.1 (fun e => by omega), this.2⟩
   · exact ⟨fun x => x.elim (fun x => by have := co.lt x; omega) (fun e => by omega), by omega⟩
end
end Go.Proofs.Ytclnogfmmekooaa
namespace Go.Proofs.Ytclnogfmmekooaa
set_option linter.unusedVariables false
set_option linter.unusedSimpArgs false
open Go.RowKit Go.Maps
set_option maxHeartbeats 400000
theorem impl_pageShape (p : Pg) (w : World) : Calls Try.prog 49 #[.agg #[.int .i64 p.state, .int .i64 p.rc.kind, .int .i64 p.rc.seq, .int .i64 p.rc.addr, .int .i64 p.rc.val]] w fun e w' => e = .returned (.bool (pageOk p)) ∧ Below w.heap.size w w' := by
 obtain ⟨st, r⟩ := p
 dsimp only
 have hB : Below w.heap.size w (w.alloc (.cells #[.int .i64 st, .int .i64 r.kind, .int .i64 r.seq, .int .i64 r.addr, .int .i64 r.val] 42)) := (Below.refl _ _).alloc (Nat.le_refl _) _
 by_cases h1 : st = 1
 · subst h1
   have hq : Hid (pageOk ⟨1, r⟩ = recOk r) := rfl
   go_enter Try.func49, Try.ntmps49
   go_wp2_with (go_at_call 41; refine (impl_RecOk r _).mono ?_; rintro e w1 ⟨rfl, hb⟩)
   go_ret
   exact ⟨ret_bool hq.out.symm, hB.trans (hb.mono (by simp))⟩
 clear hB
 obtain ⟨k, s, a, v⟩ := r
 dsimp only
 by_cases h0 : st = 0
 · subst h0
   have hq : Hid (pageOk ⟨0, ⟨k, s, a, v⟩⟩ = decide ((⟨k, s, a, v⟩ : Rc) = rc0)) := rfl
   go_enter Try.func49, Try.ntmps49
   go_wp2
   all_goals (go_ret; exact ⟨ret_bool (by rw [hq.out]; simp [rc0, *]), (Below.refl _ _).alloc (Nat.le_refl _) _⟩)
 by_cases h2 : st = 2
 · subst h2
   have hq : Hid (pageOk ⟨2, ⟨k, s, a, v⟩⟩ = decide ((⟨k, s, a, v⟩ : Rc) = rc0)) := rfl
   go_enter Try.func49, Try.ntmps49
   go_wp2
   all_goals (go_ret; exact ⟨ret_bool (by rw [hq.out]; simp [rc0, *]), (Below.refl _ _).alloc (Nat.le_refl _) _⟩)
 have hk : Hid (pageOk ⟨st, ⟨k, s, a, v⟩⟩ = false) := by unfold Hid pageOk; simp [h1, h2, h0]
 go_enter Try.func49, Try.ntmps49
 go_wp2
 go_ret
 exact ⟨ret_bool hk.out.symm, (Below.refl _ _).alloc (Nat.le_refl _) _⟩

theorem impl_blockShape (b : Bk) (A : Option Addr) (c : Nat) (w : World) (hR : Row w A (pgs b.pages)) : Calls Try.prog 48 #[.agg #[.slice A b.pages.length c, .int .i64 b.worn]] w fun e w' => e = .returned (.bool (blockShape b)) ∧ Below w.heap.size w w' := by
 obtain ⟨ps, worn⟩ := b
 dsimp only at *
 have hB : Below w.heap.size w (w.alloc (.cells #[.slice A ps.length c, .int .i64 worn] 35)) := (Below.refl _ _).alloc (Nat.le_refl _) _
 by_cases hn4 : ps.length = 4
 · obtain ⟨bk, off, rfl⟩ := hR.addr (pgs_ne (by rintro rfl; simp at hn4))
   have HN := Lib.hid hn4
   rw [hn4] at hB ⊢
   clear hn4
   by_cases h0 : worn < 0
   · have hfin : Hid (blockShape ⟨ps, worn⟩ = false) := by unfold Hid blockShape; simp; omega
     go_enter Try.func48, Try.ntmps48
     go_wp2
     go_ret
     exact ⟨ret_bool hfin.out.symm, hB⟩
   by_cases h1 : 200 < worn
   · have hfin : Hid (blockShape ⟨ps, worn⟩ = false) := by unfold Hid blockShape; simp; omega
     go_enter Try.func48, Try.ntmps48
     go_wp2
     go_ret
     exact ⟨ret_bool hfin.out.symm, hB⟩
   have hfin : Hid (blockShape ⟨ps, worn⟩ = shapeGo false ps) := by unfold Hid blockShape; simp [HN.out, show 0 ≤ worn by omega, show worn ≤ 200 by omega]
   go_enter Try.func48, Try.ntmps48
   go_wp2
   go_loopw [3, 23] (fun fr i wr => ∃ (k : Nat) (bb : Bool), k ≤ 4 ∧ i = .int .i64 k ∧ fr = .bool bb ∧ Below w.heap.size w wr ∧ Hid (shapeGo false ps = shapeGo bb (ps.drop k))) (fun _ i _ => 4 - (intOf i).toNat)
   case atStart => exact ⟨0, false, by omega, rfl, rfl, hB, rfl⟩
   case round =>
    obtain ⟨k, bb, hk, rfl, rfl, hb, hg⟩ := hrel
    by_cases hlt : k < 4
    · obtain ⟨p, hp⟩ := get_some (l := ps) (k := k) (by have := HN.out; omega)
      have hd := Lib.hid (drop_cons hp)
      obtain ⟨c0, c1, c2, c3, c4⟩ := (hR.below hb (Nat.le_refl _)).pg hp
      clear hp hB
      obtain ⟨st, rc⟩ := p
      dsimp only at *
      go_wp2
      · go_ret
        exact ⟨ret_bool (by rw [hfin.out, hg.out, hd.out]; simp [shapeGo, *]), hb.alloc hb.size _⟩
      all_goals
       go_roundw
       case rel => exact ⟨k + 1, _, by omega, by go_num, rfl, hb.alloc hb.size _, by rw [Hid, hg.out, hd.out]; simp [shapeGo, *]⟩
       case measure => simp [intOf]; omega
    · go_wp2
      go_ret
      obtain rfl : k = 4 := by omega
      exact ⟨ret_bool (by rw [hfin.out, hg.out, List.drop_of_length_le (by have := HN.out; omega)]; rfl), hb⟩
 · have hfin : Hid (blockShape ⟨ps, worn⟩ = false) := by unfold Hid blockShape; simp; omega
   go_enter Try.func48, Try.ntmps48
   go_wp2
   go_ret
   exact ⟨ret_bool hfin.out.symm, hB⟩

theorem Try.info_int : (Try.prog.info? 3).map (fun i => (i.zero, i.size, i.bytes)) = some (some (.int .i64 0), 1, 8) := by kernel_rfl
theorem zero_int (w : World) : (zeroValue 3).run Try.prog w = .ok (.int .i64 0) w := by kernel_rfl
/-- how often each number was met -/
def cnt (seen : List Int) (k : Int) : Int := seen.count k
theorem cnt_pos {seen : List Int} {k : Int} : 0 < cnt seen k ↔ k ∈ seen := by unfold cnt; rw [← List.count_pos_iff]; omega
set_option maxHeartbeats 1000000 in
theorem impl_FlashOk (f : List Bk) (A : Option Addr) (c : Nat) (w : World) (hF : Fl w A f) : Calls Try.prog 31 #[.slice A f.length c] w fun e w' => e = .returned (.bool (flashOk f)) ∧ Below w.heap.size w w' := by
 by_cases hn4 : f.length = 4
 · obtain ⟨hs, hF⟩ := hF
   obtain ⟨bk, off, rfl⟩ := hF.addr (by rintro rfl; simp at hn4)
   have hfin : Hid (flashOk f = blocksGo [] f) := by unfold Hid flashOk; simp [hn4]
   have HN := Lib.hid hn4
   rw [hn4]
   clear hn4
   have hmm := @run_makeMap Try.prog
   go_enter Try.func31, Try.ntmps31
   go_wp2
   go_loopw [14] (fun i wr => ∃ (k : Nat) (seen : List Int), k ≤ 4 ∧ i = .int .i64 k ∧ Below w.heap.size w wr ∧ IMap Try.prog 3 3 wr w.heap.size (4 * k) (cnt seen) ∧ (∀ x, cnt seen x ≤ 4 * k) ∧ Hid (flashOk f = blocksGo seen (f.drop k))) (fun i _ => 4 - (intOf i).toNat)
   case atStart => exact ⟨0, [], by omega, rfl, (Below.refl _ _).alloc (Nat.le_refl _) _, (IMap.made _ _ _ _), by simp [cnt], hfin.out⟩
   case round =>
    obtain ⟨k, seen, hk, rfl, hb, hM, hcn, hg⟩ := hrel
    by_cases hlt : k < 4
    · obtain ⟨B, hB⟩ := get_some (l := f) (k := k) (by have := HN.out; omega)
      have hd := Lib.hid (drop_cons hB)
      obtain ⟨⟨Ap, cp⟩, _, c0, c1, _, _, hR, hlc⟩ := hF.at_ hB
      have hbk : bk < w.heap.size := lt_of_cell c0
      replace c0 := (hb.cell (p := ⟨bk, off + k * 2, none⟩) hbk).trans c0
      replace c1 := (hb.cell (p := ⟨bk, off + k * 2 + 1, none⟩) hbk).trans c1
      clear hB hbk
      obtain ⟨Ps, wn⟩ := B
      dsimp only at *
      go_wp2_with fail
      refine (impl_blockShape ⟨Ps, wn⟩ Ap cp _ ((hR.below hb (Nat.le_refl _)).alloc _)).mono ?_
      rintro e w1 ⟨rfl, hb1⟩
      have hx0 : w1.cell? ⟨wr.heap.size, 0, none⟩ = some (.slice Ap Ps.length cp) := (hb1.cell (by simp)).trans (by simp)
      have hB1 : Below w.heap.size w w1 := (hb.alloc hb.size _).trans (hb1.mono (by have := hb.size; simp; omega))
      have hM1 : IMap Try.prog 3 3 w1 w.heap.size (4 * k) (cnt seen) := (hM.alloc _).below hb1 (by have := hM.lt; simp; omega)
      clear hb1 c0 c1 hM hb
      by_cases hbs : blockShape ⟨Ps, wn⟩ = true
      · have hl4 : Ps.length = 4 := by unfold blockShape at hbs; simp at hbs; exact hbs.1
        have hstep : Hid (flashOk f = pagesGo seen (fun s => blocksGo s (f.drop (k + 1))) Ps) := by rw [Hid, hg.out, hd.out, blocksGo, hbs]; rfl
        obtain ⟨pb, po, rfl⟩ := hR.addr (pgs_ne (by rintro rfl; simp at hl4))
        have HL := Lib.hid hl4
        rw [hl4] at hx0
        clear hl4 hlc hg hd
        go_wp2
        go_loopw [24] (fun i wr => ∃ (j : Nat) (seen : List Int), j ≤ 4 ∧ i = .int .i64 j ∧ Below w.heap.size w wr ∧ IMap Try.prog 3 3 wr w.heap.size (4 * k + j) (cnt seen) ∧ (∀ x, cnt seen x ≤ 4 * k + j) ∧ Hid (flashOk f = pagesGo seen (fun s => blocksGo s (f.drop (k + 1))) (Ps.drop j))) (fun i _ => 4 - (intOf i).toNat)
        case atStart => exact ⟨0, seen, by omega, rfl, hB1, hM1, by intro x; have := hcn x; omega, hstep.out⟩
        case round =>
         clear hM1 hcn seen hB1 hx0 hstep
         obtain ⟨j, seen, hj, rfl, hb, hM, hcn, hg⟩ := hrel
         by_cases hltj : j < 4
         · obtain ⟨p, hp⟩ := get_some (l := Ps) (k := j) (by have := HL.out; omega)
           have hd := Lib.hid (drop_cons hp)
           obtain ⟨c0, c1, c2, c3, c4⟩ := (hR.below hb (Nat.le_refl _)).pg hp
           clear hp
           obtain ⟨st, ⟨kd, sq, ad, vl⟩⟩ := p
           dsimp only at *
           go_wp2_with fail
           refine (impl_pageShape ⟨st, ⟨kd, sq, ad, vl⟩⟩ _).mono ?_
           rintro e w2 ⟨rfl, hb2⟩
           have hB2 : Below w.heap.size w w2 := (hb.alloc hb.size _).trans (hb2.mono (by have := hb.size; simp; omega))
           have hM2 : IMap Try.prog 3 3 w2 w.heap.size (4 * k + j) (cnt seen) := (hM.alloc _).below hb2 (by have := hM.lt; simp; omega)
           have x0 : w2.cell? ⟨wr.heap.size, 0, none⟩ = some (.int .i64 st) := (hb2.cell (by simp)).trans (by simp)
           have x2 : w2.cell? ⟨wr.heap.size, 2, none⟩ = some (.int .i64 sq) := (hb2.cell (by simp)).trans (by simp)
           clear hb2 hM hb c0 c1 c2 c3 c4
           by_cases hpo : pageOk ⟨st, ⟨kd, sq, ad, vl⟩⟩ = true
           · by_cases hst : st = 1
             · subst hst
               have hsq : 1 ≤ sq ∧ sq ≤ 600 := by unfold pageOk recOk at hpo; simp at hpo; exact ⟨hpo.2.1, hpo.2.2.1⟩
               obtain ⟨hs1, hs2⟩ := hsq
               have hwf : (Lit.int .i64 sq).wf = true := WalkArith.wf_i64 (by omega)
               have hlook := hM2.look Try.underlying77 Try.underlying3 Try.underlying3 zero_int hwf
               have hcs := hcn sq
               by_cases hin : sq ∈ seen
               · have hpos : 0 < cnt seen sq := cnt_pos.2 hin
                 have hstep : Hid (flashOk f = false) := by rw [Hid, hg.out, hd.out, pagesGo, hpo, if_neg (by simp), if_neg (by simp), if_pos hin]
                 clear hcn hg hd
                 go_wp2
                 go_ret
                 exact ⟨ret_bool hstep.out.symm, hB2⟩
               · have hz : cnt seen sq = 0 := by have := mt cnt_pos.1 hin; have : 0 ≤ cnt seen sq := by unfold cnt; omega
                                                 omega
                 rw [hz] at hlook
                 have hstep : Hid (flashOk f = pagesGo (sq :: seen) (fun s => blocksGo s (f.drop (k + 1))) (Ps.drop (j + 1))) := by rw [Hid, hg.out, hd.out, pagesGo, hpo, if_neg (by simp), if_neg (by simp), if_neg hin]
                 obtain ⟨w3, hput, hM3, hg3⟩ := hM2.put (k := sq) (v := 1) Try.underlying77 Try.underlying3 Try.underlying3 (by unfold maxLen; omega) hwf (by decide)
                 have hB3 : Below w.heap.size w w3 := hB2.grown hg3 hB2.size (by intro g e; cases e; omega)
                 have hM4 : IMap Try.prog 3 3 w3 w.heap.size (4 * k + (j + 1)) (cnt (sq :: seen)) := by
                  have e : (fun x => if x = sq then (1 : Int) else cnt seen x) = cnt (sq :: seen) := by
                   funext x
                   unfold cnt at hz ⊢
                   rw [List.count_cons]
                   by_cases hx : x = sq
                   · subst hx; simp; omega
                   · rw [if_neg hx, if_neg (by simpa using fun h => hx h.symm)]; simp
                  rw [← e]; exact hM3
                 have hcn' : ∀ x, cnt (sq :: seen) x ≤ 4 * k + (j + 1) := by
                  intro x; have := hcn x; unfold cnt at *; rw [List.count_cons]; split <;> omega
                 have HC := Lib.hid hcn'
                 clear hcn hcn' hg hd hM3 hg3 hM2 hB2 hz hin
                 go_wp2
                 go_roundw
                 case rel => exact ⟨j + 1, _, by omega, by go_num, hB3, hM4, HC.out, hstep⟩
                 case measure => simp [intOf]; omega
             · have hstep : Hid (flashOk f = pagesGo seen (fun s => blocksGo s (f.drop (k + 1))) (Ps.drop (j + 1))) := by rw [Hid, hg.out, hd.out, pagesGo, hpo, if_neg (by simp), if_pos (by simpa using hst)]
               have HC := Lib.hid hcn
               clear hg hd hcn
               go_wp2
               go_roundw
               case rel => exact ⟨j + 1, seen, by omega, by go_num, hB2, hM2.mono (by omega), by intro x; have := HC.out x; omega, hstep⟩
               case measure => simp [intOf]; omega
           · go_wp2
             go_ret
             exact ⟨ret_bool (by rw [hg.out, hd.out, pagesGo, if_pos (by simpa using hpo)]), hB2⟩
         · obtain rfl : j = 4 := by omega
           have hstep : Hid (flashOk f = blocksGo seen (f.drop (k + 1))) := by rw [Hid, hg.out, show Ps.drop 4 = [] from List.drop_of_length_le (by have := HL.out; omega)]; rfl
           have HC := Lib.hid hcn
           clear hcn hg
           go_wp2
           go_roundw
           case rel => exact ⟨k + 1, seen, by omega, by go_num, hb, hM.mono (by omega), by intro x; have := HC.out x; omega, hstep⟩
           case measure => simp [intOf]; omega
      · go_wp2
        go_ret
        exact ⟨ret_bool (by rw [hg.out, hd.out, blocksGo, if_pos (by simpa using hbs)]), hB1⟩
    · go_wp2
      go_ret
      obtain rfl : k = 4 := by omega
      exact ⟨ret_bool (by rw [hg.out, List.drop_of_length_le (by have := HN.out; omega)]; rfl), hb⟩
 · have hfin : Hid (flashOk f = false) := by unfold Hid flashOk; simp; omega
   go_enter Try.func31, Try.ntmps31
   go_wp2
   go_ret
   exact ⟨ret_bool hfin.out.symm, Below.refl _ _⟩
end Go.Proofs.Ytclnogfmmekooaa
namespace Go.Proofs.Ytclnogfmmekooaa
set_option linter.unusedVariables false
set_option linter.unusedSimpArgs false
open Go.Conc Go.ConcN Go.ConcR.Gen Go.RowKit
set_option maxRecDepth 100000
set_option maxHeartbeats 4000000
/-- The least worn, the most worn; the wear, and the torn pages, together. -/
def wLo (f : List Bk) : Int := f.foldl (fun a b => if b.worn < a then b.worn else a) 200
def wHi (f : List Bk) : Int := f.foldl (fun a b => if a < b.worn then b.worn else a) 0
def wSum (f : List Bk) : Int := f.foldl (fun a b => a + b.worn) 0
def wTorn (f : List Bk) : Int := f.foldl (fun a b => a + (tornN b.pages : Int)) 0
theorem flash_four {f : List Bk} (h : flashOk f = true) : f.length = 4 ∧ ∀ b ∈ f, b.pages.length = 4 ∧ 0 ≤ b.worn ∧ b.worn ≤ 200 := ⟨flashOk_len h, flashOk_shape h⟩
theorem tornN_le (ps : List Pg) : tornN ps ≤ ps.length := List.countP_le_length
theorem ev_min2 (P : Program) (w : World) (es : Array Event) (ts : Array TypeId) (t : TypeId) (k k' : IntKind) (x y : Int) : (Builtin.min_ ts t #[.int k x, .int k' y]).events P w es = es := by simp [Builtin.min_, Builtin.min2]
theorem ev_max2 (P : Program) (w : World) (es : Array Event) (ts : Array TypeId) (t : TypeId) (k k' : IntKind) (x y : Int) : (Builtin.max_ ts t #[.int k x, .int k' y]).events P w es = es := by simp [Builtin.max_, Builtin.max2]
section
variable {f : List Bk} {k : Nat}
theorem fold_lo : ∀ (l : List Bk) (a : Int), 0 ≤ a → (∀ b ∈ l, 0 ≤ b.worn) → 0 ≤ l.foldl (fun a b => if b.worn < a then b.worn else a) a ∧ l.foldl (fun a b => if b.worn < a then b.worn else a) a ≤ a
 | [], a, h, _ => ⟨h, Int.le_refl _⟩
 | b :: l, a, h, hb => by
   rw [List.foldl_cons]
   have h0 := hb b (by simp)
   split
   · have := fold_lo l b.worn h0 (fun x hx => hb x (by simp [hx])); omega
   · exact fold_lo l a h (fun x hx => hb x (by simp [hx]))
theorem fold_hi : ∀ (l : List Bk) (a : Int), 0 ≤ a → a ≤ 200 → (∀ b ∈ l, b.worn ≤ 200) → 0 ≤ l.foldl (fun a b => if a < b.worn then b.worn else a) a ∧ l.foldl (fun a b => if a < b.worn then b.worn else a) a ≤ 200
 | [], a, h, h2, _ => ⟨h, h2⟩
 | b :: l, a, h, h2, hb => by
   rw [List.foldl_cons]
   have h0 := hb b (by simp)
   split
   · exact fold_hi l b.worn (by omega) h0 (fun x hx => hb x (by simp [hx]))
   · exact fold_hi l a h h2 (fun x hx => hb x (by simp [hx]))
theorem fold_sum (g : Bk → Int) (m : Int) : ∀ (l : List Bk) (a : Int), (∀ b ∈ l, 0 ≤ g b ∧ g b ≤ m) → a ≤ l.foldl (fun a b => a + g b) a ∧ l.foldl (fun a b => a + g b) a ≤ a + m * l.length
 | [], a, _ => by simp
 | b :: l, a, hb => by
   rw [List.foldl_cons]
   have h0 := hb b (by simp)
   have := fold_sum g m l (a + g b) (fun x hx => hb x (by simp [hx]))
   simp only [List.length_cons]
   have e : m * ((l.length + 1 : Nat) : Int) = m * (l.length : Int) + m := by rw [Int.natCast_add, Int.mul_add]; simp
   rw [e]
   omega
theorem wLo_ge (h : flashOk f = true) : 0 ≤ wLo f ∧ wLo f ≤ 200 := fold_lo f 200 (by omega) fun b hb => ((flash_four h).2 b hb).2.1
theorem wHi_le (h : flashOk f = true) : 0 ≤ wHi f ∧ wHi f ≤ 200 := fold_hi f 0 (by omega) (by omega) fun b hb => ((flash_four h).2 b hb).2.2
theorem take_len (h : flashOk f = true) : (f.take k).length ≤ 4 := by rw [List.length_take, (flash_four h).1]; omega
theorem wSum_small (h : flashOk f = true) : 0 ≤ wSum (f.take k) ∧ wSum (f.take k) ≤ 800 := by
 have := fold_sum (fun b => b.worn) 200 (f.take k) 0 fun b hb => ((flash_four h).2 b (List.mem_of_mem_take hb)).2
 have := take_len (k := k) h
 unfold wSum
 omega
theorem wTorn_small (h : flashOk f = true) : 0 ≤ wTorn (f.take k) ∧ wTorn (f.take k) ≤ 16 := by
 have := fold_sum (fun b => (tornN b.pages : Int)) 4 (f.take k) 0 fun b hb => by
  have h1 := tornN_le b.pages
  have h2 := ((flash_four h).2 b (List.mem_of_mem_take hb)).1
  omega
 have := take_len (k := k) h
 unfold wTorn
 omega
end
/-- What is held in the loops: what was found lies in block C. -/
structure Wk (Gd : Option (Nat × Nat × Nat)) (SB A : Nat → Prop) (w0 w1 : World) (C : Nat) (f : List Bk) (w : World) : Prop where
 co : Co (good Gd) SB A w0 w
 bel : Bel w1 w
 cells : w.heap[C]? = some (.cells (wears f).toArray 55)
 inA : A C
section
variable {Gd : Option (Nat × Nat × Nat)} {SB A : Nat → Prop} {w0 w1 w : World} {C : Nat} {f : List Bk} {Post : Value → World → Prop} {cc : Frame} {rest : List Frame} {V : Nat} {cs : Array Value}
theorem Wk.tp (w : World) (T : Nat → Question → Nat) (d : Nat) (h : Wk Gd SB A w0 w1 C f w) : Wk Gd SB A w0 w1 C f (tp w T d) := ⟨h.co.tp T d, ⟨h.bel.os, h.bel.output, h.bel.size, h.bel.block⟩, h.cells, h.inA⟩
theorem Wk.nsb (h : Wk Gd SB A w0 w1 C f w) : ¬ SB C := fun x => (h.co.away C x).1 h.inA
theorem Wk.lt (h : Wk Gd SB A w0 w1 C f w) : C < w.heap.size := h.co.lt h.inA
theorem Wk.cell (h : Wk Gd SB A w0 w1 C f w) {k : Nat} {b : Bk} (hb : f[k]? = some b) : w.cell? ⟨C, k * 2, none⟩ = some (.int .i64 b.worn) ∧ w.cell? ⟨C, k * 2 + 1, none⟩ = some (.int .i64 (tornN b.pages : Int)) := by
 have g := fun j hj => flat_get (fun b : Bk => [Value.int .i64 b.worn, .int .i64 (tornN b.pages : Int)]) 2 (fun _ => rfl) f k j b hb hj
 have g0 := g 0 (by omega)
 have g1 := g 1 (by omega)
 constructor
 · simp only [World.cell?, h.cells, wears]; simpa using g0
 · simp only [World.cell?, h.cells, wears]; simpa using g1
theorem Wk.push (h : Wk Gd SB A w0 w1 C f w) (o : Obj) : Wk Gd SB A w0 w1 C f { w with heap := w.heap.push o } :=
 ⟨h.co.push o, h.bel.trans ⟨rfl, rfl, by simp, fun b hb => getElem?_push_old _ _ hb⟩, (getElem?_push_old _ _ h.lt).trans h.cells, h.inA⟩
/-- .. and the round's variable in block V. -/
structure Nw (Gd : Option (Nat × Nat × Nat)) (SB A : Nat → Prop) (w0 w1 : World) (C : Nat) (f : List Bk) (V : Nat) (cs : Array Value) (w : World) : Prop where
 wk : Wk Gd SB A w0 w1 C f w
 var : w.heap[V]? = some (.cells cs 55)
 lt : V < w.heap.size
 non : ¬ A V
 ge0 : w0.heap.size ≤ V
 ge1 : w1.heap.size ≤ V
 nsb : ¬ SB V
theorem Nw.tp (w : World) (T : Nat → Question → Nat) (d : Nat) (h : Nw Gd SB A w0 w1 C f V cs w) : Nw Gd SB A w0 w1 C f V cs (tp w T d) := ⟨h.wk.tp _ T d, h.var, h.lt, h.non, h.ge0, h.ge1, h.nsb⟩
theorem Nw.cell (h : Nw Gd SB A w0 w1 C f V cs w) (j : Nat) : w.cell? ⟨V, j, none⟩ = cs[j]? := by simp [World.cell?, h.var]
theorem Nw.thaw (h : Nw Gd SB A w0 w1 C f V cs w) (j : Nat) : w.frozen? ⟨V, j, none⟩ = false := by simp [World.frozen?, h.var]
theorem Nw.set (h : Nw Gd SB A w0 w1 C f V cs w) (j : Nat) (v : Value) : Nw Gd SB A w0 w1 C f V (cs.setIfInBounds j v) (w.setCell ⟨V, j, none⟩ v) := by
 have hs : (w.setCell ⟨V, j, none⟩ v).heap.size = w.heap.size := by simp [World.setCell]
 have hC : C ≠ V := fun e => h.non (e ▸ h.wk.inA)
 exact ⟨⟨h.wk.co.setCell j v h.non h.ge0, h.wk.bel.more hs rfl rfl fun b hb => Below.heap_setCell _ ⟨V, j, none⟩ v b (by have := h.ge1; show b ≠ V; omega), (Below.heap_setCell _ ⟨V, j, none⟩ v C hC).trans h.wk.cells, h.wk.inA⟩, heap_set_same h.var, by rw [hs]; exact h.lt, h.non, h.ge0, h.ge1, h.nsb⟩
theorem arrw29 (T : Array Value) (h : T.size = 29) : ∃ v0 v1 v2 v3 v4 v5 v6 v7 v8 v9 v10 v11 v12 v13 v14 v15 v16 v17 v18 v19 v20 v21 v22 v23 v24 v25 v26 v27 v28, T = #[v0, v1, v2, v3, v4, v5, v6, v7, v8, v9, v10, v11, v12, v13, v14, v15, v16, v17, v18, v19, v20, v21, v22, v23, v24, v25, v26, v27, v28] := by
 obtain ⟨l⟩ := T
 simp only [List.size_toArray] at h
 rcases l with _ | ⟨v0, l⟩
 · simp at h
 rcases l with _ | ⟨v1, l⟩
 · simp at h
 rcases l with _ | ⟨v2, l⟩
 · simp at h
 rcases l with _ | ⟨v3, l⟩
 · simp at h
 rcases l with _ | ⟨v4, l⟩
 · simp at h
 rcases l with _ | ⟨v5, l⟩
 · simp at h
 rcases l with _ | ⟨v6, l⟩
 · simp at h
 rcases l with _ | ⟨v7, l⟩
 · simp at h
 rcases l with _ | ⟨v8, l⟩
 · simp at h
 rcases l with _ | ⟨v9, l⟩
 · simp at h
 rcases l with _ | ⟨v10, l⟩
 · simp at h
 rcases l with _ | ⟨v11, l⟩
 · simp at h
 rcases l with _ | ⟨v12, l⟩
 · simp at h
 rcases l with _ | ⟨v13, l⟩
 · simp at h
 rcases l with _ | ⟨v14, l⟩
 · simp at h
 rcases l with _ | ⟨v15, l⟩
 · simp at h
 rcases l with _ | ⟨v16, l⟩
 · simp at h
 rcases l with _ | ⟨v17, l⟩
 · simp at h
 rcases l with _ | ⟨v18, l⟩
 · simp at h
 rcases l with _ | ⟨v19, l⟩
 · simp at h
 rcases l with _ | ⟨v20, l⟩
 · simp at h
 rcases l with _ | ⟨v21, l⟩
 · simp at h
 rcases l with _ | ⟨v22, l⟩
 · simp at h
 rcases l with _ | ⟨v23, l⟩
 · simp at h
 rcases l with _ | ⟨v24, l⟩
 · simp at h
 rcases l with _ | ⟨v25, l⟩
 · simp at h
 rcases l with _ | ⟨v26, l⟩
 · simp at h
 rcases l with _ | ⟨v27, l⟩
 · simp at h
 rcases l with _ | ⟨v28, l⟩
 · simp at h
 obtain rfl : l = [] := List.eq_nil_of_length_eq_zero (by simpa using h)
 exact ⟨_, _, _, _, _, _, _, _, _, _, _, _, _, _, _, _, _, _, _, _, _, _, _, _, _, _, _, _, _, rfl⟩
noncomputable def wSpreadB : Code := match Try.f14.body with | some (.seq _ (.seq _ (.seq _ (.seq (.seq _ (.block _ (.loop c))) _)))) => c | _ => .skip
noncomputable def wSpreadT : Code := match Try.f14.body with | some (.seq _ (.seq _ (.seq _ (.seq _ c)))) => c | _ => .skip
/-- Its loop, and what follows it. -/
theorem wSpreadLoop (hok : flashOk f = true) (next : ∀ w, Wk Gd SB A w0 w1 C f w → Fine Try.prog Post SB (G (cc.finish (.int .i64 (wHi f - wLo f))) rest) w) :
 ∀ (m k : Nat) (T : Array Value) (w : World), k + m = 4 → T.size = 29 → T[3]? = some (.int .i64 (wLo (f.take k))) → T[4]? = some (.int .i64 (wHi (f.take k))) → T[11]? = some (.slice (some ⟨C, 0, none⟩) 4 4) → T[12]? = some (.int .i64 4) → T[13]? = some (.int .i64 (k : Int)) → Wk Gd SB A w0 w1 C f w → Fine Try.prog Post SB (G ((base 14).at ⟨T, []⟩ [.code wSpreadB, .inLoop wSpreadB, .inBlock 0, .code wSpreadT]) (cc :: rest)) w := by
 have h4 := (flash_four hok).1
 intro m
 induction m with
 | zero =>
   intro k T w hk hT t3 t4 to tl tk hW
   obtain rfl : k = 4 := by omega
   rw [List.take_of_length_le (by omega)] at t3 t4
   obtain ⟨v0, v1, v2, v3, v4, v5, v6, v7, v8, v9, v10, v11, v12, v13, v14, v15, v16, v17, v18, v19, v20, v21, v22, v23, v24, v25, v26, v27, v28, rfl⟩ := arrw29 T hT
   simp only [List.getElem?_toArray, List.getElem?_cons_succ, List.getElem?_cons_zero, Option.some.injEq] at t3 t4 to tl tk
   subst t3 t4 to tl tk
   simp only [wSpreadB, wSpreadT, Try.f14]
   refine f_ctl rfl (fun w => stepG_seq) ?_
   refine f_ctl rfl (fun w => stepG_region) ?_
   simp only [List.size_toArray, List.length_cons, List.length_nil, Nat.reduceAdd, Nat.zero_add, List.range, List.range.loop]
   refine f_val (F := fun _ => True) (fun _ _ _ _ => trivial) trivial rfl rfl (by k_ne) (fun w hw => ⟨run_eq_of (fun K hK => by skip; go_simp; exact hK), by skip; rw [listed_nil (by simp [go_sem, ev_min2, ev_max2, *])]; simp⟩) ?_
   walk_nrm
   refine f_ctl rfl (fun w => stepG_region_end) ?_
   refine f_ctl rfl (fun w => stepG_seq) ?_
   refine f_ctl rfl (fun w => stepG_cond (t := false) (by simp [Act.eval])) ?_
   simp only [if_true, Bool.false_eq_true, if_false]
   refine f_ctl rfl (fun w => stepG_exit rfl) ?_
   have hxs : IntKind.i64.wrap (wHi f - wLo f) = wHi f - wLo f := by have := wHi_le hok; have := wLo_ge hok; rw [IntKind.wrap_i64]; omega
   refine f_ctl rfl (fun w => stepG_seq) ?_
   refine f_ctl rfl (fun w => stepG_region) ?_
   simp only [List.size_toArray, List.length_cons, List.length_nil, Nat.reduceAdd, Nat.zero_add, List.range, List.range.loop]
   refine f_val (F := fun _ => True) (fun _ _ _ _ => trivial) trivial rfl rfl (by k_ne) (fun w hw => ⟨run_eq_of (fun K hK => by skip; go_simp; exact hK), by skip; rw [listed_nil (by simp [go_sem, ev_min2, ev_max2, *])]; simp⟩) ?_
   walk_nrm
   refine f_val (F := fun _ => True) (fun _ _ _ _ => trivial) trivial rfl rfl (by k_ne) (fun w hw => ⟨run_eq_of (fun K hK => by skip; go_simp; exact hK), by skip; rw [listed_nil (by simp [go_sem, ev_min2, ev_max2, *])]; simp⟩) ?_
   walk_nrm
   refine f_val (F := fun _ => True) (fun _ _ _ _ => trivial) trivial rfl rfl (by k_ne) (fun w hw => ⟨run_eq_of (fun K hK => by have hx := hxs; go_simp; exact hK), by have hx := hxs; rw [listed_nil (by simp [go_sem, ev_min2, ev_max2, *])]; simp⟩) ?_
   walk_nrm
   refine f_val (F := fun _ => True) (fun _ _ _ _ => trivial) trivial rfl rfl (by k_ne) (fun w hw => ⟨run_eq_of (fun K hK => by skip; go_simp; exact hK), by skip; rw [listed_nil (by simp [go_sem, ev_min2, ev_max2, *])]; simp⟩) ?_
   walk_nrm
   refine f_ctl rfl (fun w => stepG_region_end) ?_
   refine f_ctl rfl (fun w => stepG_ret') ?_
   refine f_leave rfl rfl Try.func14 (fun w => ⟨?_, ?_⟩) (next w hW)
   · simp [results, Try.f14, go_sem]
   · rw [show (results Try.f14 _).events Try.prog w #[] = #[] by simp [results, Try.f14, go_sem]]
     rfl
 | succ m ih =>
   intro k T w hk hT t3 t4 to tl tk hW
   obtain ⟨b, hb⟩ := get_some (l := f) (k := k) (by omega)
   have hbf := (flash_four hok).2 b (List.mem_of_getElem? hb)
   have hbl := hbf.1
   replace hbf := hbf.2
   have hW0 := hW
   have hk1 : IntKind.i64.wrap ((k : Int) + 1) = ((k + 1 : Nat) : Int) := by rw [IntKind.wrap_i64]; omega
   have hx3 := trivial
   have hx4 := trivial
   obtain ⟨v0, v1, v2, v3, v4, v5, v6, v7, v8, v9, v10, v11, v12, v13, v14, v15, v16, v17, v18, v19, v20, v21, v22, v23, v24, v25, v26, v27, v28, rfl⟩ := arrw29 T hT
   simp only [List.getElem?_toArray, List.getElem?_cons_succ, List.getElem?_cons_zero, Option.some.injEq] at t3 t4 to tl tk
   subst t3 t4 to tl tk
   simp only [wSpreadB, wSpreadT, Try.f14]
   refine f_ctl rfl (fun w => stepG_seq) ?_
   refine f_ctl rfl (fun w => stepG_region) ?_
   simp only [List.size_toArray, List.length_cons, List.length_nil, Nat.reduceAdd, Nat.zero_add, List.range, List.range.loop]
   refine f_val (F := fun _ => True) (fun _ _ _ _ => trivial) trivial rfl rfl (by k_ne) (fun w hw => ⟨run_eq_of (fun K hK => by have hlt : (k : Int) < (4 : Int) := (by omega); go_simp; exact hK), by have hlt : (k : Int) < (4 : Int) := (by omega); rw [listed_nil (by simp [go_sem, ev_min2, ev_max2, *])]; simp⟩) ?_
   walk_nrm
   refine f_ctl rfl (fun w => stepG_region_end) ?_
   refine f_ctl rfl (fun w => stepG_seq) ?_
   refine f_ctl rfl (fun w => stepG_cond (t := true) (by have hlt : decide ((k : Int) < (4 : Int)) = true := decide_eq_true (by omega); simp [Act.eval, hlt])) ?_
   simp only [if_true, Bool.false_eq_true, if_false]
   refine f_ctl rfl (fun w => stepG_skip) ?_
   refine f_ctl rfl (fun w => stepG_seq) ?_
   refine f_ctl rfl (fun w => stepG_block) ?_
   refine f_ctl rfl (fun w => stepG_seq) ?_
   refine f_ctl rfl (fun w => stepG_region) ?_
   simp only [List.size_toArray, List.length_cons, List.length_nil, Nat.reduceAdd, Nat.zero_add, List.range, List.range.loop]
   refine f_val (F := fun _ => True) (fun _ _ _ _ => trivial) trivial rfl rfl (by k_ne) (fun w hw => ⟨run_eq_of (fun K hK => by have hlt : (k : Int) < (4 : Int) := (by omega); go_simp; exact hK), by have hlt : (k : Int) < (4 : Int) := (by omega); rw [listed_nil (by simp [go_sem, ev_min2, ev_max2, *])]; simp⟩) ?_
   walk_nrm
   refine f_val (F := Wk Gd SB A w0 w1 C f) Wk.tp hW rfl rfl (by k_ne) (v := .agg #[.int .i64 b.worn, .int .i64 (tornN b.pages : Int)]) (fun w hw => ⟨run_eq_of (fun K hK => by have h0 := (hw.cell hb).1; have h1 := (hw.cell hb).2; go_simp; exact hK), by have h0 := (hw.cell hb).1; have h1 := (hw.cell hb).2; intro e he; have hm := mem_listed he; simp [go_sem, *] at hm; rcases hm with rfl | rfl <;> exact ⟨hw.nsb, hw.lt⟩⟩) ?_
   walk_nrm
   refine f_new (F := Wk Gd SB A w0 w1 C f) Wk.tp hW rfl rfl (by k_ne) (fun b => .pointer (some ⟨b, 0, none⟩)) (.cells #[.int .i64 0, .int .i64 0] 55) (fun w hw => ⟨by go_simp, listed_nil (by simp [go_sem, *])⟩) (fun w hW => ?_)
   walk_nrm
   have hWb := hW
   replace hW := hW.push (.cells #[.int .i64 0, .int .i64 0] 55)
   generalize hwx : ({ w with heap := w.heap.push (.cells #[.int .i64 0, .int .i64 0] 55) } : World) = wx at hW
   obtain ⟨V, hV⟩ : ∃ V, w.heap.size = V := ⟨_, rfl⟩
   rw [hV]
   have hN : Nw Gd SB A w0 w1 C f V #[.int .i64 0, .int .i64 0] wx := by
    have hvt : V < wx.heap.size := by rw [← hwx, ← hV]; simp
    refine ⟨hW, by rw [← hwx, ← hV]; simp, hvt, ?_, ?_, ?_, ?_⟩
    · intro h; have := hWb.co.lt h; omega
    · rw [← hV]; exact hWb.co.bel.size
    · rw [← hV]; exact hWb.bel.size
    · intro h; have := hWb.co.shun h; omega
   clear hwx
   refine f_set (F := Nw Gd SB A w0 w1 C f V #[.int .i64 0, .int .i64 0]) (F' := Nw Gd SB A w0 w1 C f V #[.int .i64 b.worn, .int .i64 (tornN b.pages : Int)]) Nw.tp hN rfl rfl (by k_ne) (fun w => (w.setCell ⟨V, 0, none⟩ (.int .i64 b.worn)).setCell ⟨V, 1, none⟩ (.int .i64 (tornN b.pages : Int))) (fun w hw => ⟨by have h0 := hw.cell 0; have h1 := hw.cell 1; have z0 := hw.thaw 0; have z1 := hw.thaw 1; simp only [List.getElem?_toArray, List.getElem?_cons_succ, List.getElem?_cons_zero] at h0 h1; go_simp, by simp [World.setCell], by have h0 := hw.cell 0; have h1 := hw.cell 1; have z0 := hw.thaw 0; have z1 := hw.thaw 1; simp only [List.getElem?_toArray, List.getElem?_cons_succ, List.getElem?_cons_zero] at h0 h1; intro e he; have hm := mem_listed he; simp [go_sem, *] at hm; rcases hm with rfl | rfl <;> exact ⟨hw.nsb, hw.lt⟩, by simpa using (hw.set 0 (.int .i64 b.worn)).set 1 (.int .i64 (tornN b.pages : Int))⟩) (fun w hN => ?_)
   walk_nrm
   refine f_ctl rfl (fun w => stepG_region_end) ?_
   refine f_ctl rfl (fun w => stepG_seq) ?_
   refine f_ctl rfl (fun w => stepG_region) ?_
   simp only [List.size_toArray, List.length_cons, List.length_nil, Nat.reduceAdd, Nat.zero_add, List.range, List.range.loop]
   refine f_val (F := fun _ => True) (fun _ _ _ _ => trivial) trivial rfl rfl (by k_ne) (fun w hw => ⟨run_eq_of (fun K hK => by skip; go_simp; exact hK), by skip; rw [listed_nil (by simp [go_sem, ev_min2, ev_max2, *])]; simp⟩) ?_
   walk_nrm
   refine f_val (F := fun _ => True) (fun _ _ _ _ => trivial) trivial rfl rfl (by k_ne) (fun w hw => ⟨run_eq_of (fun K hK => by skip; go_simp; exact hK), by skip; rw [listed_nil (by simp [go_sem, ev_min2, ev_max2, *])]; simp⟩) ?_
   walk_nrm
   refine f_val (F := Nw Gd SB A w0 w1 C f V #[.int .i64 b.worn, .int .i64 (tornN b.pages : Int)]) Nw.tp hN rfl rfl (by k_ne) (v := .int .i64 (b.worn)) (fun w hw => ⟨run_eq_of (fun K hK => by have h0 := hw.cell 0; simp only [List.getElem?_toArray, List.getElem?_cons_succ, List.getElem?_cons_zero] at h0; go_simp; exact hK), by have h0 := hw.cell 0; simp only [List.getElem?_toArray, List.getElem?_cons_succ, List.getElem?_cons_zero] at h0; intro e he; have hm := mem_listed he; simp [go_sem, *] at hm; subst hm; exact ⟨hw.nsb, hw.lt⟩⟩) ?_
   walk_nrm
   refine f_val (F := fun _ => True) (fun _ _ _ _ => trivial) trivial rfl rfl (by k_ne) (fun w hw => ⟨run_eq_of (fun K hK => by have hx := hx3; go_simp; exact hK), by have hx := hx3; rw [listed_nil (by simp [go_sem, ev_min2, ev_max2, *])]; simp⟩) ?_
   walk_nrm
   refine f_val (F := fun _ => True) (fun _ _ _ _ => trivial) trivial rfl rfl (by k_ne) (fun w hw => ⟨run_eq_of (fun K hK => by skip; go_simp; exact hK), by skip; rw [listed_nil (by simp [go_sem, ev_min2, ev_max2, *])]; simp⟩) ?_
   walk_nrm
   refine f_ctl rfl (fun w => stepG_region_end) ?_
   refine f_ctl rfl (fun w => stepG_region) ?_
   simp only [List.size_toArray, List.length_cons, List.length_nil, Nat.reduceAdd, Nat.zero_add, List.range, List.range.loop]
   refine f_val (F := fun _ => True) (fun _ _ _ _ => trivial) trivial rfl rfl (by k_ne) (fun w hw => ⟨run_eq_of (fun K hK => by skip; go_simp; exact hK), by skip; rw [listed_nil (by simp [go_sem, ev_min2, ev_max2, *])]; simp⟩) ?_
   walk_nrm
   refine f_val (F := fun _ => True) (fun _ _ _ _ => trivial) trivial rfl rfl (by k_ne) (fun w hw => ⟨run_eq_of (fun K hK => by skip; go_simp; exact hK), by skip; rw [listed_nil (by simp [go_sem, ev_min2, ev_max2, *])]; simp⟩) ?_
   walk_nrm
   refine f_val (F := Nw Gd SB A w0 w1 C f V #[.int .i64 b.worn, .int .i64 (tornN b.pages : Int)]) Nw.tp hN rfl rfl (by k_ne) (v := .int .i64 (b.worn)) (fun w hw => ⟨run_eq_of (fun K hK => by have h0 := hw.cell 0; simp only [List.getElem?_toArray, List.getElem?_cons_succ, List.getElem?_cons_zero] at h0; go_simp; exact hK), by have h0 := hw.cell 0; simp only [List.getElem?_toArray, List.getElem?_cons_succ, List.getElem?_cons_zero] at h0; intro e he; have hm := mem_listed he; simp [go_sem, *] at hm; subst hm; exact ⟨hw.nsb, hw.lt⟩⟩) ?_
   walk_nrm
   refine f_val (F := fun _ => True) (fun _ _ _ _ => trivial) trivial rfl rfl (by k_ne) (fun w hw => ⟨run_eq_of (fun K hK => by have hx := hx4; go_simp; exact hK), by have hx := hx4; rw [listed_nil (by simp [go_sem, ev_min2, ev_max2, *])]; simp⟩) ?_
   walk_nrm
   refine f_val (F := fun _ => True) (fun _ _ _ _ => trivial) trivial rfl rfl (by k_ne) (fun w hw => ⟨run_eq_of (fun K hK => by skip; go_simp; exact hK), by skip; rw [listed_nil (by simp [go_sem, ev_min2, ev_max2, *])]; simp⟩) ?_
   walk_nrm
   refine f_ctl rfl (fun w => stepG_region_end) ?_
   refine f_ctl rfl (fun w => stepG_inBlock) ?_
   refine f_ctl rfl (fun w => stepG_region) ?_
   simp only [List.size_toArray, List.length_cons, List.length_nil, Nat.reduceAdd, Nat.zero_add, List.range, List.range.loop]
   refine f_val (F := fun _ => True) (fun _ _ _ _ => trivial) trivial rfl rfl (by k_ne) (fun w hw => ⟨run_eq_of (fun K hK => by have hk1 := hk1; go_simp; exact hK), by have hk1 := hk1; rw [listed_nil (by simp [go_sem, ev_min2, ev_max2, *])]; simp⟩) ?_
   walk_nrm
   refine f_val (F := fun _ => True) (fun _ _ _ _ => trivial) trivial rfl rfl (by k_ne) (fun w hw => ⟨run_eq_of (fun K hK => by skip; go_simp; exact hK), by skip; rw [listed_nil (by simp [go_sem, ev_min2, ev_max2, *])]; simp⟩) ?_
   walk_nrm
   refine f_ctl rfl (fun w => stepG_region_end) ?_
   refine f_ctl rfl (fun w => stepG_inLoop) ?_
   have htk : f.take (k + 1) = f.take k ++ [b] := by rw [List.take_add_one, hb]; rfl
   skip
   have e3 : (if b.worn < wLo (f.take k) then b.worn else wLo (f.take k)) = wLo (f.take (k + 1)) := by rw [htk]; unfold wLo; rw [List.foldl_append]; rfl
   have e4 : (if wHi (f.take k) < b.worn then b.worn else wHi (f.take k)) = wHi (f.take (k + 1)) := by rw [htk]; unfold wHi; rw [List.foldl_append]; rfl
   have ih2 := fun T => ih (k + 1) T w (by omega)
   simp only [wSpreadB, wSpreadT, Try.f14] at ih2
   refine ih2 _ rfl ?_ ?_ rfl rfl ?_ hN.wk
   all_goals first | (show some (Value.int .i64 _) = some (Value.int .i64 _); first | (rw [← e3]; done) | (rw [← e4]; done) | rfl) | rfl
/-- ████ impl.WearSpread. ████ -/
theorem Co.wearSpread {ad : Option Addr} {c : Nat} (co : Co (good Gd) SB A w0 w) (hv : VIn (good Gd) A (.slice ad f.length c)) (hf : Fl (cutW (good Gd) w) ad f)
 (next : ∀ w' SB' A', (∀ b, A b → A' b) → Co (good Gd) SB' A' w0 w' → Bel w w' → Fine Try.prog Post SB' (G (cc.finish (.int .i64 (if flashOk f then wHi f - wLo f else -1))) rest) w') :
 Fine Try.prog Post SB (G (Frame.enter Try.prog 14 #[.slice ad f.length c] .normal) (cc :: rest)) w := by
 rw [enter_at _ Try.func14 rfl]
 walk_nrmf Try.f14
 refine f_ctl rfl (fun w => stepG_seq) ?_
 refine f_ctl rfl (fun w => stepG_region) ?_
 simp only [List.size_toArray, List.length_cons, List.length_nil, Nat.reduceAdd, Nat.zero_add, List.range, List.range.loop]
 refine f_val (F := fun _ => True) (fun _ _ _ _ => trivial) trivial rfl rfl (by k_ne) (fun w hw => ⟨run_eq_of (fun K hK => by skip; go_simp; exact hK), by skip; rw [listed_nil (by simp [go_sem, ev_min2, ev_max2, *])]; simp⟩) ?_
 walk_nrm
 refine f_ctl rfl (fun w => stepG_region_end) ?_
 refine f_ctl rfl (fun w => stepG_seq) ?_
 refine f_ctl rfl (fun w => stepG_seq) ?_
 refine f_ctl rfl (fun w => stepG_region) ?_
 simp only [List.size_toArray, List.length_cons, List.length_nil, Nat.reduceAdd, Nat.zero_add, List.range, List.range.loop]
 refine f_val (F := fun _ => True) (fun _ _ _ _ => trivial) trivial rfl rfl (by k_ne) (fun w hw => ⟨run_eq_of (fun K hK => by skip; go_simp; exact hK), by skip; rw [listed_nil (by simp [go_sem, ev_min2, ev_max2, *])]; simp⟩) ?_
 walk_nrm
 refine f_enter rfl rfl (by k_ne) rfl Try.func31 rfl rfl ?_
 walk_nrm
 refine co.call (R := fun v _ => v = .bool (flashOk f)) (fun _ _ _ _ h => h) (by kernel_rfl) (fun v hx => by simp at hx; subst hx; exact hv) (fun T d => (impl_FlashOk f ad c (Go.Proofs.Ytclnogfmmekooaa.tp (cutW (good Gd) w) T d) (hf.bel (Bel.tp _ T d))).mono fun e w' ⟨h1, h2⟩ => ⟨_, h1, rfl, h2⟩) ?_
 intro A1 v w1 hA co1 hb1 _ hv1
 subst hv1
 rw [Frame.finish_at]
 walk_nrm
 refine f_val (F := fun _ => True) (fun _ _ _ _ => trivial) trivial rfl rfl (by k_ne) (fun w hw => ⟨run_eq_of (fun K hK => by skip; go_simp; exact hK), by skip; rw [listed_nil (by simp [go_sem, ev_min2, ev_max2, *])]; simp⟩) ?_
 walk_nrm
 refine f_ctl rfl (fun w => stepG_region_end) ?_
 cases hok : flashOk f with
 | false =>
   refine f_ctl rfl (fun w => stepG_cond (t := true) (by simp [Act.eval, hok])) ?_
   simp only [if_true, Bool.false_eq_true, if_false]
   refine f_ctl rfl (fun w => stepG_seq) ?_
   refine f_ctl rfl (fun w => stepG_region) ?_
   simp only [List.size_toArray, List.length_cons, List.length_nil, Nat.reduceAdd, Nat.zero_add, List.range, List.range.loop]
   refine f_val (F := fun _ => True) (fun _ _ _ _ => trivial) trivial rfl rfl (by k_ne) (fun w hw => ⟨run_eq_of (fun K hK => by skip; go_simp; exact hK), by skip; rw [listed_nil (by simp [go_sem, ev_min2, ev_max2, *])]; simp⟩) ?_
   walk_nrm
   refine f_ctl rfl (fun w => stepG_region_end) ?_
   refine f_ctl rfl (fun w => stepG_ret') ?_
   refine f_leave rfl rfl Try.func14 (fun w => ⟨?_, ?_⟩) (v := .int .i64 (-1)) ?_
   · simp [results, Try.f14, go_sem]
   · rw [show (results Try.f14 _).events Try.prog w #[] = #[] by simp [results, Try.f14, go_sem]]
     rfl
   · have := next w1 SB A1 hA co1 hb1
     rw [hok] at this
     simpa using this
 | true =>
   have h4 := (flash_four hok).1
   rw [h4] at hv ⊢
   refine f_ctl rfl (fun w => stepG_cond (t := false) (by simp [Act.eval, hok])) ?_
   simp only [if_true, Bool.false_eq_true, if_false]
   refine f_ctl rfl (fun w => stepG_skip) ?_
   refine f_ctl rfl (fun w => stepG_seq) ?_
   refine f_ctl rfl (fun w => stepG_region) ?_
   simp only [List.size_toArray, List.length_cons, List.length_nil, Nat.reduceAdd, Nat.zero_add, List.range, List.range.loop]
   refine f_val (F := fun _ => True) (fun _ _ _ _ => trivial) trivial rfl rfl (by k_ne) (fun w hw => ⟨run_eq_of (fun K hK => by skip; go_simp; exact hK), by skip; rw [listed_nil (by simp [go_sem, ev_min2, ev_max2, *])]; simp⟩) ?_
   walk_nrm
   refine f_val (F := fun _ => True) (fun _ _ _ _ => trivial) trivial rfl rfl (by k_ne) (fun w hw => ⟨run_eq_of (fun K hK => by skip; go_simp; exact hK), by skip; rw [listed_nil (by simp [go_sem, ev_min2, ev_max2, *])]; simp⟩) ?_
   walk_nrm
   refine f_ctl rfl (fun w => stepG_region_end) ?_
   refine f_ctl rfl (fun w => stepG_seq) ?_
   refine f_ctl rfl (fun w => stepG_seq) ?_
   refine f_ctl rfl (fun w => stepG_region) ?_
   simp only [List.size_toArray, List.length_cons, List.length_nil, Nat.reduceAdd, Nat.zero_add, List.range, List.range.loop]
   refine f_val (F := fun _ => True) (fun _ _ _ _ => trivial) trivial rfl rfl (by k_ne) (fun w hw => ⟨run_eq_of (fun K hK => by skip; go_simp; exact hK), by skip; rw [listed_nil (by simp [go_sem, ev_min2, ev_max2, *])]; simp⟩) ?_
   walk_nrm
   refine f_enter rfl rfl (by k_ne) rfl Try.func32 rfl rfl ?_
   walk_nrm
   refine Co.wearEach co1 (hv.mono hA) (hf.bel hb1.cut) h4 (fun b hb => ((flash_four hok).2 b hb).1) ?_
   intro w2 C W co2 hb2 hC hcell
   rw [Frame.finish_at]
   walk_nrm
   refine f_val (F := fun _ => True) (fun _ _ _ _ => trivial) trivial rfl rfl (by k_ne) (fun w hw => ⟨run_eq_of (fun K hK => by skip; go_simp; exact hK), by skip; rw [listed_nil (by simp [go_sem, ev_min2, ev_max2, *])]; simp⟩) ?_
   walk_nrm
   refine f_val (F := fun _ => True) (fun _ _ _ _ => trivial) trivial rfl rfl (by k_ne) (fun w hw => ⟨run_eq_of (fun K hK => by skip; go_simp; exact hK), by skip; rw [listed_nil (by simp [go_sem, ev_min2, ev_max2, *])]; simp⟩) ?_
   walk_nrm
   refine f_ctl rfl (fun w => stepG_region_end) ?_
   refine f_ctl rfl (fun w => stepG_block) ?_
   refine f_ctl rfl (fun w => stepG_loop) ?_
   have hW : Wk Gd (fun b => SB b ∨ b = W) (fun b => A1 b ∨ b = C) w0 w2 C f w2 := ⟨co2, .refl w2, hcell, .inr rfl⟩
   have hl := fun T w => wSpreadLoop (Gd := Gd) (SB := fun b => SB b ∨ b = W) (A := fun b => A1 b ∨ b = C) (w0 := w0) (w1 := w2) (C := C) (Post := Post) (cc := cc) (rest := rest) hok (fun w3 hW3 => by
    have := next w3 _ _ (fun b hb => .inl (hA b hb)) hW3.co (hb1.trans (hb2.trans hW3.bel))
    rw [hok] at this
    simpa using this) 4 0 T w rfl
   simp only [wSpreadB, wSpreadT, Try.f14] at hl
   exact hl _ w2 rfl rfl rfl rfl rfl rfl hW

theorem arrw22 (T : Array Value) (h : T.size = 22) : ∃ v0 v1 v2 v3 v4 v5 v6 v7 v8 v9 v10 v11 v12 v13 v14 v15 v16 v17 v18 v19 v20 v21, T = #[v0, v1, v2, v3, v4, v5, v6, v7, v8, v9, v10, v11, v12, v13, v14, v15, v16, v17, v18, v19, v20, v21] := by
 obtain ⟨l⟩ := T
 simp only [List.size_toArray] at h
 rcases l with _ | ⟨v0, l⟩
 · simp at h
 rcases l with _ | ⟨v1, l⟩
 · simp at h
 rcases l with _ | ⟨v2, l⟩
 · simp at h
 rcases l with _ | ⟨v3, l⟩
 · simp at h
 rcases l with _ | ⟨v4, l⟩
 · simp at h
 rcases l with _ | ⟨v5, l⟩
 · simp at h
 rcases l with _ | ⟨v6, l⟩
 · simp at h
 rcases l with _ | ⟨v7, l⟩
 · simp at h
 rcases l with _ | ⟨v8, l⟩
 · simp at h
 rcases l with _ | ⟨v9, l⟩
 · simp at h
 rcases l with _ | ⟨v10, l⟩
 · simp at h
 rcases l with _ | ⟨v11, l⟩
 · simp at h
 rcases l with _ | ⟨v12, l⟩
 · simp at h
 rcases l with _ | ⟨v13, l⟩
 · simp at h
 rcases l with _ | ⟨v14, l⟩
 · simp at h
 rcases l with _ | ⟨v15, l⟩
 · simp at h
 rcases l with _ | ⟨v16, l⟩
 · simp at h
 rcases l with _ | ⟨v17, l⟩
 · simp at h
 rcases l with _ | ⟨v18, l⟩
 · simp at h
 rcases l with _ | ⟨v19, l⟩
 · simp at h
 rcases l with _ | ⟨v20, l⟩
 · simp at h
 rcases l with _ | ⟨v21, l⟩
 · simp at h
 obtain rfl : l = [] := List.eq_nil_of_length_eq_zero (by simpa using h)
 exact ⟨_, _, _, _, _, _, _, _, _, _, _, _, _, _, _, _, _, _, _, _, _, _, rfl⟩
noncomputable def wAllB : Code := match Try.f20.body with | some (.seq _ (.seq _ (.seq _ (.seq (.seq _ (.block _ (.loop c))) _)))) => c | _ => .skip
noncomputable def wAllT : Code := match Try.f20.body with | some (.seq _ (.seq _ (.seq _ (.seq _ c)))) => c | _ => .skip
/-- Its loop, and what follows it. -/
theorem wAllLoop (hok : flashOk f = true) (next : ∀ w, Wk Gd SB A w0 w1 C f w → Fine Try.prog Post SB (G (cc.finish (.int .i64 (wSum f))) rest) w) :
 ∀ (m k : Nat) (T : Array Value) (w : World), k + m = 4 → T.size = 22 → T[3]? = some (.int .i64 (wSum (f.take k))) → T[10]? = some (.slice (some ⟨C, 0, none⟩) 4 4) → T[11]? = some (.int .i64 4) → T[12]? = some (.int .i64 (k : Int)) → Wk Gd SB A w0 w1 C f w → Fine Try.prog Post SB (G ((base 20).at ⟨T, []⟩ [.code wAllB, .inLoop wAllB, .inBlock 0, .code wAllT]) (cc :: rest)) w := by
 have h4 := (flash_four hok).1
 intro m
 induction m with
 | zero =>
   intro k T w hk hT t3 to tl tk hW
   obtain rfl : k = 4 := by omega
   rw [List.take_of_length_le (by omega)] at t3
   obtain ⟨v0, v1, v2, v3, v4, v5, v6, v7, v8, v9, v10, v11, v12, v13, v14, v15, v16, v17, v18, v19, v20, v21, rfl⟩ := arrw22 T hT
   simp only [List.getElem?_toArray, List.getElem?_cons_succ, List.getElem?_cons_zero, Option.some.injEq] at t3 to tl tk
   subst t3 to tl tk
   simp only [wAllB, wAllT, Try.f20]
   refine f_ctl rfl (fun w => stepG_seq) ?_
   refine f_ctl rfl (fun w => stepG_region) ?_
   simp only [List.size_toArray, List.length_cons, List.length_nil, Nat.reduceAdd, Nat.zero_add, List.range, List.range.loop]
   refine f_val (F := fun _ => True) (fun _ _ _ _ => trivial) trivial rfl rfl (by k_ne) (fun w hw => ⟨run_eq_of (fun K hK => by skip; go_simp; exact hK), by skip; rw [listed_nil (by simp [go_sem, ev_min2, ev_max2, *])]; simp⟩) ?_
   walk_nrm
   refine f_ctl rfl (fun w => stepG_region_end) ?_
   refine f_ctl rfl (fun w => stepG_seq) ?_
   refine f_ctl rfl (fun w => stepG_cond (t := false) (by simp [Act.eval])) ?_
   simp only [if_true, Bool.false_eq_true, if_false]
   refine f_ctl rfl (fun w => stepG_exit rfl) ?_

   refine f_ctl rfl (fun w => stepG_seq) ?_
   refine f_ctl rfl (fun w => stepG_region) ?_
   simp only [List.size_toArray, List.length_cons, List.length_nil, Nat.reduceAdd, Nat.zero_add, List.range, List.range.loop]
   refine f_val (F := fun _ => True) (fun _ _ _ _ => trivial) trivial rfl rfl (by k_ne) (fun w hw => ⟨run_eq_of (fun K hK => by skip; go_simp; exact hK), by skip; rw [listed_nil (by simp [go_sem, ev_min2, ev_max2, *])]; simp⟩) ?_
   walk_nrm
   refine f_val (F := fun _ => True) (fun _ _ _ _ => trivial) trivial rfl rfl (by k_ne) (fun w hw => ⟨run_eq_of (fun K hK => by skip; go_simp; exact hK), by skip; rw [listed_nil (by simp [go_sem, ev_min2, ev_max2, *])]; simp⟩) ?_
   walk_nrm
   refine f_ctl rfl (fun w => stepG_region_end) ?_
   refine f_ctl rfl (fun w => stepG_ret') ?_
   refine f_leave rfl rfl Try.func20 (fun w => ⟨?_, ?_⟩) (next w hW)
   · simp [results, Try.f20, go_sem]
   · rw [show (results Try.f20 _).events Try.prog w #[] = #[] by simp [results, Try.f20, go_sem]]
     rfl
 | succ m ih =>
   intro k T w hk hT t3 to tl tk hW
   obtain ⟨b, hb⟩ := get_some (l := f) (k := k) (by omega)
   have hbf := (flash_four hok).2 b (List.mem_of_getElem? hb)
   have hbl := hbf.1
   replace hbf := hbf.2
   have hW0 := hW
   have hk1 : IntKind.i64.wrap ((k : Int) + 1) = ((k + 1 : Nat) : Int) := by rw [IntKind.wrap_i64]; omega
   have hx3 := trivial
   have hx4 := trivial
   obtain ⟨v0, v1, v2, v3, v4, v5, v6, v7, v8, v9, v10, v11, v12, v13, v14, v15, v16, v17, v18, v19, v20, v21, rfl⟩ := arrw22 T hT
   simp only [List.getElem?_toArray, List.getElem?_cons_succ, List.getElem?_cons_zero, Option.some.injEq] at t3 to tl tk
   subst t3 to tl tk
   simp only [wAllB, wAllT, Try.f20]
   refine f_ctl rfl (fun w => stepG_seq) ?_
   refine f_ctl rfl (fun w => stepG_region) ?_
   simp only [List.size_toArray, List.length_cons, List.length_nil, Nat.reduceAdd, Nat.zero_add, List.range, List.range.loop]
   refine f_val (F := fun _ => True) (fun _ _ _ _ => trivial) trivial rfl rfl (by k_ne) (fun w hw => ⟨run_eq_of (fun K hK => by have hlt : (k : Int) < (4 : Int) := (by omega); go_simp; exact hK), by have hlt : (k : Int) < (4 : Int) := (by omega); rw [listed_nil (by simp [go_sem, ev_min2, ev_max2, *])]; simp⟩) ?_
   walk_nrm
   refine f_ctl rfl (fun w => stepG_region_end) ?_
   refine f_ctl rfl (fun w => stepG_seq) ?_
   refine f_ctl rfl (fun w => stepG_cond (t := true) (by have hlt : decide ((k : Int) < (4 : Int)) = true := decide_eq_true (by omega); simp [Act.eval, hlt])) ?_
   simp only [if_true, Bool.false_eq_true, if_false]
   refine f_ctl rfl (fun w => stepG_skip) ?_
   refine f_ctl rfl (fun w => stepG_seq) ?_
   refine f_ctl rfl (fun w => stepG_block) ?_
   refine f_ctl rfl (fun w => stepG_seq) ?_
   refine f_ctl rfl (fun w => stepG_region) ?_
   simp only [List.size_toArray, List.length_cons, List.length_nil, Nat.reduceAdd, Nat.zero_add, List.range, List.range.loop]
   refine f_val (F := fun _ => True) (fun _ _ _ _ => trivial) trivial rfl rfl (by k_ne) (fun w hw => ⟨run_eq_of (fun K hK => by have hlt : (k : Int) < (4 : Int) := (by omega); go_simp; exact hK), by have hlt : (k : Int) < (4 : Int) := (by omega); rw [listed_nil (by simp [go_sem, ev_min2, ev_max2, *])]; simp⟩) ?_
   walk_nrm
   refine f_val (F := Wk Gd SB A w0 w1 C f) Wk.tp hW rfl rfl (by k_ne) (v := .agg #[.int .i64 b.worn, .int .i64 (tornN b.pages : Int)]) (fun w hw => ⟨run_eq_of (fun K hK => by have h0 := (hw.cell hb).1; have h1 := (hw.cell hb).2; go_simp; exact hK), by have h0 := (hw.cell hb).1; have h1 := (hw.cell hb).2; intro e he; have hm := mem_listed he; simp [go_sem, *] at hm; rcases hm with rfl | rfl <;> exact ⟨hw.nsb, hw.lt⟩⟩) ?_
   walk_nrm
   refine f_new (F := Wk Gd SB A w0 w1 C f) Wk.tp hW rfl rfl (by k_ne) (fun b => .pointer (some ⟨b, 0, none⟩)) (.cells #[.int .i64 0, .int .i64 0] 55) (fun w hw => ⟨by go_simp, listed_nil (by simp [go_sem, *])⟩) (fun w hW => ?_)
   walk_nrm
   have hWb := hW
   replace hW := hW.push (.cells #[.int .i64 0, .int .i64 0] 55)
   generalize hwx : ({ w with heap := w.heap.push (.cells #[.int .i64 0, .int .i64 0] 55) } : World) = wx at hW
   obtain ⟨V, hV⟩ : ∃ V, w.heap.size = V := ⟨_, rfl⟩
   rw [hV]
   have hN : Nw Gd SB A w0 w1 C f V #[.int .i64 0, .int .i64 0] wx := by
    have hvt : V < wx.heap.size := by rw [← hwx, ← hV]; simp
    refine ⟨hW, by rw [← hwx, ← hV]; simp, hvt, ?_, ?_, ?_, ?_⟩
    · intro h; have := hWb.co.lt h; omega
    · rw [← hV]; exact hWb.co.bel.size
    · rw [← hV]; exact hWb.bel.size
    · intro h; have := hWb.co.shun h; omega
   clear hwx
   refine f_set (F := Nw Gd SB A w0 w1 C f V #[.int .i64 0, .int .i64 0]) (F' := Nw Gd SB A w0 w1 C f V #[.int .i64 b.worn, .int .i64 (tornN b.pages : Int)]) Nw.tp hN rfl rfl (by k_ne) (fun w => (w.setCell ⟨V, 0, none⟩ (.int .i64 b.worn)).setCell ⟨V, 1, none⟩ (.int .i64 (tornN b.pages : Int))) (fun w hw => ⟨by have h0 := hw.cell 0; have h1 := hw.cell 1; have z0 := hw.thaw 0; have z1 := hw.thaw 1; simp only [List.getElem?_toArray, List.getElem?_cons_succ, List.getElem?_cons_zero] at h0 h1; go_simp, by simp [World.setCell], by have h0 := hw.cell 0; have h1 := hw.cell 1; have z0 := hw.thaw 0; have z1 := hw.thaw 1; simp only [List.getElem?_toArray, List.getElem?_cons_succ, List.getElem?_cons_zero] at h0 h1; intro e he; have hm := mem_listed he; simp [go_sem, *] at hm; rcases hm with rfl | rfl <;> exact ⟨hw.nsb, hw.lt⟩, by simpa using (hw.set 0 (.int .i64 b.worn)).set 1 (.int .i64 (tornN b.pages : Int))⟩) (fun w hN => ?_)
   walk_nrm
   refine f_ctl rfl (fun w => stepG_region_end) ?_
   refine f_ctl rfl (fun w => stepG_region) ?_
   simp only [List.size_toArray, List.length_cons, List.length_nil, Nat.reduceAdd, Nat.zero_add, List.range, List.range.loop]
   refine f_val (F := fun _ => True) (fun _ _ _ _ => trivial) trivial rfl rfl (by k_ne) (fun w hw => ⟨run_eq_of (fun K hK => by skip; go_simp; exact hK), by skip; rw [listed_nil (by simp [go_sem, ev_min2, ev_max2, *])]; simp⟩) ?_
   walk_nrm
   refine f_val (F := fun _ => True) (fun _ _ _ _ => trivial) trivial rfl rfl (by k_ne) (fun w hw => ⟨run_eq_of (fun K hK => by skip; go_simp; exact hK), by skip; rw [listed_nil (by simp [go_sem, ev_min2, ev_max2, *])]; simp⟩) ?_
   walk_nrm
   refine f_val (F := Nw Gd SB A w0 w1 C f V #[.int .i64 b.worn, .int .i64 (tornN b.pages : Int)]) Nw.tp hN rfl rfl (by k_ne) (v := .int .i64 (b.worn)) (fun w hw => ⟨run_eq_of (fun K hK => by have h0 := hw.cell 0; simp only [List.getElem?_toArray, List.getElem?_cons_succ, List.getElem?_cons_zero] at h0; go_simp; exact hK), by have h0 := hw.cell 0; simp only [List.getElem?_toArray, List.getElem?_cons_succ, List.getElem?_cons_zero] at h0; intro e he; have hm := mem_listed he; simp [go_sem, *] at hm; subst hm; exact ⟨hw.nsb, hw.lt⟩⟩) ?_
   walk_nrm
   refine f_val (F := fun _ => True) (fun _ _ _ _ => trivial) trivial rfl rfl (by k_ne) (fun w hw => ⟨run_eq_of (fun K hK => by have hx := hx3; go_simp; exact hK), by have hx := hx3; rw [listed_nil (by simp [go_sem, ev_min2, ev_max2, *])]; simp⟩) ?_
   walk_nrm
   refine f_val (F := fun _ => True) (fun _ _ _ _ => trivial) trivial rfl rfl (by k_ne) (fun w hw => ⟨run_eq_of (fun K hK => by skip; go_simp; exact hK), by skip; rw [listed_nil (by simp [go_sem, ev_min2, ev_max2, *])]; simp⟩) ?_
   walk_nrm
   refine f_ctl rfl (fun w => stepG_region_end) ?_
   refine f_ctl rfl (fun w => stepG_inBlock) ?_
   refine f_ctl rfl (fun w => stepG_region) ?_
   simp only [List.size_toArray, List.length_cons, List.length_nil, Nat.reduceAdd, Nat.zero_add, List.range, List.range.loop]
   refine f_val (F := fun _ => True) (fun _ _ _ _ => trivial) trivial rfl rfl (by k_ne) (fun w hw => ⟨run_eq_of (fun K hK => by have hk1 := hk1; go_simp; exact hK), by have hk1 := hk1; rw [listed_nil (by simp [go_sem, ev_min2, ev_max2, *])]; simp⟩) ?_
   walk_nrm
   refine f_val (F := fun _ => True) (fun _ _ _ _ => trivial) trivial rfl rfl (by k_ne) (fun w hw => ⟨run_eq_of (fun K hK => by skip; go_simp; exact hK), by skip; rw [listed_nil (by simp [go_sem, ev_min2, ev_max2, *])]; simp⟩) ?_
   walk_nrm
   refine f_ctl rfl (fun w => stepG_region_end) ?_
   refine f_ctl rfl (fun w => stepG_inLoop) ?_
   have htk : f.take (k + 1) = f.take k ++ [b] := by rw [List.take_add_one, hb]; rfl
   have hy3 : IntKind.i64.wrap (wSum (f.take k) + b.worn) = wSum (f.take k) + b.worn := by have := wSum_small hok (k := k); have := hbf; rw [IntKind.wrap_i64]; omega
   have e3 : wSum (f.take k) + b.worn = wSum (f.take (k + 1)) := by rw [htk]; unfold wSum; rw [List.foldl_append]; rfl
   have ih2 := fun T => ih (k + 1) T w (by omega)
   simp only [wAllB, wAllT, Try.f20] at ih2
   refine ih2 _ rfl ?_ rfl rfl ?_ hN.wk
   all_goals first | (show some (Value.int .i64 _) = some (Value.int .i64 _); first | (rw [← e3]; done) | (rw [← e3, hy3]; done) | rfl) | rfl
/-- ████ impl.WearAll. ████ -/
theorem Co.wearAll {ad : Option Addr} {c : Nat} (co : Co (good Gd) SB A w0 w) (hv : VIn (good Gd) A (.slice ad f.length c)) (hf : Fl (cutW (good Gd) w) ad f)
 (next : ∀ w' SB' A', (∀ b, A b → A' b) → Co (good Gd) SB' A' w0 w' → Bel w w' → Fine Try.prog Post SB' (G (cc.finish (.int .i64 (if flashOk f then wSum f else -1))) rest) w') :
 Fine Try.prog Post SB (G (Frame.enter Try.prog 20 #[.slice ad f.length c] .normal) (cc :: rest)) w := by
 rw [enter_at _ Try.func20 rfl]
 walk_nrmf Try.f20
 refine f_ctl rfl (fun w => stepG_seq) ?_
 refine f_ctl rfl (fun w => stepG_region) ?_
 simp only [List.size_toArray, List.length_cons, List.length_nil, Nat.reduceAdd, Nat.zero_add, List.range, List.range.loop]
 refine f_val (F := fun _ => True) (fun _ _ _ _ => trivial) trivial rfl rfl (by k_ne) (fun w hw => ⟨run_eq_of (fun K hK => by skip; go_simp; exact hK), by skip; rw [listed_nil (by simp [go_sem, ev_min2, ev_max2, *])]; simp⟩) ?_
 walk_nrm
 refine f_ctl rfl (fun w => stepG_region_end) ?_
 refine f_ctl rfl (fun w => stepG_seq) ?_
 refine f_ctl rfl (fun w => stepG_seq) ?_
 refine f_ctl rfl (fun w => stepG_region) ?_
 simp only [List.size_toArray, List.length_cons, List.length_nil, Nat.reduceAdd, Nat.zero_add, List.range, List.range.loop]
 refine f_val (F := fun _ => True) (fun _ _ _ _ => trivial) trivial rfl rfl (by k_ne) (fun w hw => ⟨run_eq_of (fun K hK => by skip; go_simp; exact hK), by skip; rw [listed_nil (by simp [go_sem, ev_min2, ev_max2, *])]; simp⟩) ?_
 walk_nrm
 refine f_enter rfl rfl (by k_ne) rfl Try.func31 rfl rfl ?_
 walk_nrm
 refine co.call (R := fun v _ => v = .bool (flashOk f)) (fun _ _ _ _ h => h) (by kernel_rfl) (fun v hx => by simp at hx; subst hx; exact hv) (fun T d => (impl_FlashOk f ad c (Go.Proofs.Ytclnogfmmekooaa.tp (cutW (good Gd) w) T d) (hf.bel (Bel.tp _ T d))).mono fun e w' ⟨h1, h2⟩ => ⟨_, h1, rfl, h2⟩) ?_
 intro A1 v w1 hA co1 hb1 _ hv1
 subst hv1
 rw [Frame.finish_at]
 walk_nrm
 refine f_val (F := fun _ => True) (fun _ _ _ _ => trivial) trivial rfl rfl (by k_ne) (fun w hw => ⟨run_eq_of (fun K hK => by skip; go_simp; exact hK), by skip; rw [listed_nil (by simp [go_sem, ev_min2, ev_max2, *])]; simp⟩) ?_
 walk_nrm
 refine f_ctl rfl (fun w => stepG_region_end) ?_
 cases hok : flashOk f with
 | false =>
   refine f_ctl rfl (fun w => stepG_cond (t := true) (by simp [Act.eval, hok])) ?_
   simp only [if_true, Bool.false_eq_true, if_false]
   refine f_ctl rfl (fun w => stepG_seq) ?_
   refine f_ctl rfl (fun w => stepG_region) ?_
   simp only [List.size_toArray, List.length_cons, List.length_nil, Nat.reduceAdd, Nat.zero_add, List.range, List.range.loop]
   refine f_val (F := fun _ => True) (fun _ _ _ _ => trivial) trivial rfl rfl (by k_ne) (fun w hw => ⟨run_eq_of (fun K hK => by skip; go_simp; exact hK), by skip; rw [listed_nil (by simp [go_sem, ev_min2, ev_max2, *])]; simp⟩) ?_
   walk_nrm
   refine f_ctl rfl (fun w => stepG_region_end) ?_
   refine f_ctl rfl (fun w => stepG_ret') ?_
   refine f_leave rfl rfl Try.func20 (fun w => ⟨?_, ?_⟩) (v := .int .i64 (-1)) ?_
   · simp [results, Try.f20, go_sem]
   · rw [show (results Try.f20 _).events Try.prog w #[] = #[] by simp [results, Try.f20, go_sem]]
     rfl
   · have := next w1 SB A1 hA co1 hb1
     rw [hok] at this
     simpa using this
 | true =>
   have h4 := (flash_four hok).1
   rw [h4] at hv ⊢
   refine f_ctl rfl (fun w => stepG_cond (t := false) (by simp [Act.eval, hok])) ?_
   simp only [if_true, Bool.false_eq_true, if_false]
   refine f_ctl rfl (fun w => stepG_skip) ?_
   refine f_ctl rfl (fun w => stepG_seq) ?_
   refine f_ctl rfl (fun w => stepG_region) ?_
   simp only [List.size_toArray, List.length_cons, List.length_nil, Nat.reduceAdd, Nat.zero_add, List.range, List.range.loop]
   refine f_val (F := fun _ => True) (fun _ _ _ _ => trivial) trivial rfl rfl (by k_ne) (fun w hw => ⟨run_eq_of (fun K hK => by skip; go_simp; exact hK), by skip; rw [listed_nil (by simp [go_sem, ev_min2, ev_max2, *])]; simp⟩) ?_
   walk_nrm
   refine f_ctl rfl (fun w => stepG_region_end) ?_
   refine f_ctl rfl (fun w => stepG_seq) ?_
   refine f_ctl rfl (fun w => stepG_seq) ?_
   refine f_ctl rfl (fun w => stepG_region) ?_
   simp only [List.size_toArray, List.length_cons, List.length_nil, Nat.reduceAdd, Nat.zero_add, List.range, List.range.loop]
   refine f_val (F := fun _ => True) (fun _ _ _ _ => trivial) trivial rfl rfl (by k_ne) (fun w hw => ⟨run_eq_of (fun K hK => by skip; go_simp; exact hK), by skip; rw [listed_nil (by simp [go_sem, ev_min2, ev_max2, *])]; simp⟩) ?_
   walk_nrm
   refine f_enter rfl rfl (by k_ne) rfl Try.func32 rfl rfl ?_
   walk_nrm
   refine Co.wearEach co1 (hv.mono hA) (hf.bel hb1.cut) h4 (fun b hb => ((flash_four hok).2 b hb).1) ?_
   intro w2 C W co2 hb2 hC hcell
   rw [Frame.finish_at]
   walk_nrm
   refine f_val (F := fun _ => True) (fun _ _ _ _ => trivial) trivial rfl rfl (by k_ne) (fun w hw => ⟨run_eq_of (fun K hK => by skip; go_simp; exact hK), by skip; rw [listed_nil (by simp [go_sem, ev_min2, ev_max2, *])]; simp⟩) ?_
   walk_nrm
   refine f_val (F := fun _ => True) (fun _ _ _ _ => trivial) trivial rfl rfl (by k_ne) (fun w hw => ⟨run_eq_of (fun K hK => by skip; go_simp; exact hK), by skip; rw [listed_nil (by simp [go_sem, ev_min2, ev_max2, *])]; simp⟩) ?_
   walk_nrm
   refine f_ctl rfl (fun w => stepG_region_end) ?_
   refine f_ctl rfl (fun w => stepG_block) ?_
   refine f_ctl rfl (fun w => stepG_loop) ?_
   have hW : Wk Gd (fun b => SB b ∨ b = W) (fun b => A1 b ∨ b = C) w0 w2 C f w2 := ⟨co2, .refl w2, hcell, .inr rfl⟩
   have hl := fun T w => wAllLoop (Gd := Gd) (SB := fun b => SB b ∨ b = W) (A := fun b => A1 b ∨ b = C) (w0 := w0) (w1 := w2) (C := C) (Post := Post) (cc := cc) (rest := rest) hok (fun w3 hW3 => by
    have := next w3 _ _ (fun b hb => .inl (hA b hb)) hW3.co (hb1.trans (hb2.trans hW3.bel))
    rw [hok] at this
    simpa using this) 4 0 T w rfl
   simp only [wAllB, wAllT, Try.f20] at hl
   exact hl _ w2 rfl rfl rfl rfl rfl hW

noncomputable def wLostB : Code := match Try.f17.body with | some (.seq _ (.seq _ (.seq _ (.seq (.seq _ (.block _ (.loop c))) _)))) => c | _ => .skip
noncomputable def wLostT : Code := match Try.f17.body with | some (.seq _ (.seq _ (.seq _ (.seq _ c)))) => c | _ => .skip
/-- Its loop, and what follows it. -/
theorem wLostLoop (hok : flashOk f = true) (next : ∀ w, Wk Gd SB A w0 w1 C f w → Fine Try.prog Post SB (G (cc.finish (.int .i64 (wTorn f))) rest) w) :
 ∀ (m k : Nat) (T : Array Value) (w : World), k + m = 4 → T.size = 22 → T[3]? = some (.int .i64 (wTorn (f.take k))) → T[10]? = some (.slice (some ⟨C, 0, none⟩) 4 4) → T[11]? = some (.int .i64 4) → T[12]? = some (.int .i64 (k : Int)) → Wk Gd SB A w0 w1 C f w → Fine Try.prog Post SB (G ((base 17).at ⟨T, []⟩ [.code wLostB, .inLoop wLostB, .inBlock 0, .code wLostT]) (cc :: rest)) w := by
 have h4 := (flash_four hok).1
 intro m
 induction m with
 | zero =>
   intro k T w hk hT t3 to tl tk hW
   obtain rfl : k = 4 := by omega
   rw [List.take_of_length_le (by omega)] at t3
   obtain ⟨v0, v1, v2, v3, v4, v5, v6, v7, v8, v9, v10, v11, v12, v13, v14, v15, v16, v17, v18, v19, v20, v21, rfl⟩ := arrw22 T hT
   simp only [List.getElem?_toArray, List.getElem?_cons_succ, List.getElem?_cons_zero, Option.some.injEq] at t3 to tl tk
   subst t3 to tl tk
   simp only [wLostB, wLostT, Try.f17]
   refine f_ctl rfl (fun w => stepG_seq) ?_
   refine f_ctl rfl (fun w => stepG_region) ?_
   simp only [List.size_toArray, List.length_cons, List.length_nil, Nat.reduceAdd, Nat.zero_add, List.range, List.range.loop]
   refine f_val (F := fun _ => True) (fun _ _ _ _ => trivial) trivial rfl rfl (by k_ne) (fun w hw => ⟨run_eq_of (fun K hK => by skip; go_simp; exact hK), by skip; rw [listed_nil (by simp [go_sem, ev_min2, ev_max2, *])]; simp⟩) ?_
   walk_nrm
   refine f_ctl rfl (fun w => stepG_region_end) ?_
   refine f_ctl rfl (fun w => stepG_seq) ?_
   refine f_ctl rfl (fun w => stepG_cond (t := false) (by simp [Act.eval])) ?_
   simp only [if_true, Bool.false_eq_true, if_false]
   refine f_ctl rfl (fun w => stepG_exit rfl) ?_

   refine f_ctl rfl (fun w => stepG_seq) ?_
   refine f_ctl rfl (fun w => stepG_region) ?_
   simp only [List.size_toArray, List.length_cons, List.length_nil, Nat.reduceAdd, Nat.zero_add, List.range, List.range.loop]
   refine f_val (F := fun _ => True) (fun _ _ _ _ => trivial) trivial rfl rfl (by k_ne) (fun w hw => ⟨run_eq_of (fun K hK => by skip; go_simp; exact hK), by skip; rw [listed_nil (by simp [go_sem, ev_min2, ev_max2, *])]; simp⟩) ?_
   walk_nrm
   refine f_val (F := fun _ => True) (fun _ _ _ _ => trivial) trivial rfl rfl (by k_ne) (fun w hw => ⟨run_eq_of (fun K hK => by skip; go_simp; exact hK), by skip; rw [listed_nil (by simp [go_sem, ev_min2, ev_max2, *])]; simp⟩) ?_
   walk_nrm
   refine f_ctl rfl (fun w => stepG_region_end) ?_
   refine f_ctl rfl (fun w => stepG_ret') ?_
   refine f_leave rfl rfl Try.func17 (fun w => ⟨?_, ?_⟩) (next w hW)
   · simp [results, Try.f17, go_sem]
   · rw [show (results Try.f17 _).events Try.prog w #[] = #[] by simp [results, Try.f17, go_sem]]
     rfl
 | succ m ih =>
   intro k T w hk hT t3 to tl tk hW
   obtain ⟨b, hb⟩ := get_some (l := f) (k := k) (by omega)
   have hbf := (flash_four hok).2 b (List.mem_of_getElem? hb)
   have hbl := hbf.1
   replace hbf := hbf.2
   have hW0 := hW
   have hk1 : IntKind.i64.wrap ((k : Int) + 1) = ((k + 1 : Nat) : Int) := by rw [IntKind.wrap_i64]; omega
   have hx3 := trivial
   have hx4 := trivial
   obtain ⟨v0, v1, v2, v3, v4, v5, v6, v7, v8, v9, v10, v11, v12, v13, v14, v15, v16, v17, v18, v19, v20, v21, rfl⟩ := arrw22 T hT
   simp only [List.getElem?_toArray, List.getElem?_cons_succ, List.getElem?_cons_zero, Option.some.injEq] at t3 to tl tk
   subst t3 to tl tk
   simp only [wLostB, wLostT, Try.f17]
   refine f_ctl rfl (fun w => stepG_seq) ?_
   refine f_ctl rfl (fun w => stepG_region) ?_
   simp only [List.size_toArray, List.length_cons, List.length_nil, Nat.reduceAdd, Nat.zero_add, List.range, List.range.loop]
   refine f_val (F := fun _ => True) (fun _ _ _ _ => trivial) trivial rfl rfl (by k_ne) (fun w hw => ⟨run_eq_of (fun K hK => by have hlt : (k : Int) < (4 : Int) := (by omega); go_simp; exact hK), by have hlt : (k : Int) < (4 : Int) := (by omega); rw [listed_nil (by simp [go_sem, ev_min2, ev_max2, *])]; simp⟩) ?_
   walk_nrm
   refine f_ctl rfl (fun w => stepG_region_end) ?_
   refine f_ctl rfl (fun w => stepG_seq) ?_
   refine f_ctl rfl (fun w => stepG_cond (t := true) (by have hlt : decide ((k : Int) < (4 : Int)) = true := decide_eq_true (by omega); simp [Act.eval, hlt])) ?_
   simp only [if_true, Bool.false_eq_true, if_false]
   refine f_ctl rfl (fun w => stepG_skip) ?_
   refine f_ctl rfl (fun w => stepG_seq) ?_
   refine f_ctl rfl (fun w => stepG_block) ?_
   refine f_ctl rfl (fun w => stepG_seq) ?_
   refine f_ctl rfl (fun w => stepG_region) ?_
   simp only [List.size_toArray, List.length_cons, List.length_nil, Nat.reduceAdd, Nat.zero_add, List.range, List.range.loop]
   refine f_val (F := fun _ => True) (fun _ _ _ _ => trivial) trivial rfl rfl (by k_ne) (fun w hw => ⟨run_eq_of (fun K hK => by have hlt : (k : Int) < (4 : Int) := (by omega); go_simp; exact hK), by have hlt : (k : Int) < (4 : Int) := (by omega); rw [listed_nil (by simp [go_sem, ev_min2, ev_max2, *])]; simp⟩) ?_
   walk_nrm
   refine f_val (F := Wk Gd SB A w0 w1 C f) Wk.tp hW rfl rfl (by k_ne) (v := .agg #[.int .i64 b.worn, .int .i64 (tornN b.pages : Int)]) (fun w hw => ⟨run_eq_of (fun K hK => by have h0 := (hw.cell hb).1; have h1 := (hw.cell hb).2; go_simp; exact hK), by have h0 := (hw.cell hb).1; have h1 := (hw.cell hb).2; intro e he; have hm := mem_listed he; simp [go_sem, *] at hm; rcases hm with rfl | rfl <;> exact ⟨hw.nsb, hw.lt⟩⟩) ?_
   walk_nrm
   refine f_new (F := Wk Gd SB A w0 w1 C f) Wk.tp hW rfl rfl (by k_ne) (fun b => .pointer (some ⟨b, 0, none⟩)) (.cells #[.int .i64 0, .int .i64 0] 55) (fun w hw => ⟨by go_simp, listed_nil (by simp [go_sem, *])⟩) (fun w hW => ?_)
   walk_nrm
   have hWb := hW
   replace hW := hW.push (.cells #[.int .i64 0, .int .i64 0] 55)
   generalize hwx : ({ w with heap := w.heap.push (.cells #[.int .i64 0, .int .i64 0] 55) } : World) = wx at hW
   obtain ⟨V, hV⟩ : ∃ V, w.heap.size = V := ⟨_, rfl⟩
   rw [hV]
   have hN : Nw Gd SB A w0 w1 C f V #[.int .i64 0, .int .i64 0] wx := by
    have hvt : V < wx.heap.size := by rw [← hwx, ← hV]; simp
    refine ⟨hW, by rw [← hwx, ← hV]; simp, hvt, ?_, ?_, ?_, ?_⟩
    · intro h; have := hWb.co.lt h; omega
    · rw [← hV]; exact hWb.co.bel.size
    · rw [← hV]; exact hWb.bel.size
    · intro h; have := hWb.co.shun h; omega
   clear hwx
   refine f_set (F := Nw Gd SB A w0 w1 C f V #[.int .i64 0, .int .i64 0]) (F' := Nw Gd SB A w0 w1 C f V #[.int .i64 b.worn, .int .i64 (tornN b.pages : Int)]) Nw.tp hN rfl rfl (by k_ne) (fun w => (w.setCell ⟨V, 0, none⟩ (.int .i64 b.worn)).setCell ⟨V, 1, none⟩ (.int .i64 (tornN b.pages : Int))) (fun w hw => ⟨by have h0 := hw.cell 0; have h1 := hw.cell 1; have z0 := hw.thaw 0; have z1 := hw.thaw 1; simp only [List.getElem?_toArray, List.getElem?_cons_succ, List.getElem?_cons_zero] at h0 h1; go_simp, by simp [World.setCell], by have h0 := hw.cell 0; have h1 := hw.cell 1; have z0 := hw.thaw 0; have z1 := hw.thaw 1; simp only [List.getElem?_toArray, List.getElem?_cons_succ, List.getElem?_cons_zero] at h0 h1; intro e he; have hm := mem_listed he; simp [go_sem, *] at hm; rcases hm with rfl | rfl <;> exact ⟨hw.nsb, hw.lt⟩, by simpa using (hw.set 0 (.int .i64 b.worn)).set 1 (.int .i64 (tornN b.pages : Int))⟩) (fun w hN => ?_)
   walk_nrm
   refine f_ctl rfl (fun w => stepG_region_end) ?_
   refine f_ctl rfl (fun w => stepG_region) ?_
   simp only [List.size_toArray, List.length_cons, List.length_nil, Nat.reduceAdd, Nat.zero_add, List.range, List.range.loop]
   refine f_val (F := fun _ => True) (fun _ _ _ _ => trivial) trivial rfl rfl (by k_ne) (fun w hw => ⟨run_eq_of (fun K hK => by skip; go_simp; exact hK), by skip; rw [listed_nil (by simp [go_sem, ev_min2, ev_max2, *])]; simp⟩) ?_
   walk_nrm
   refine f_val (F := fun _ => True) (fun _ _ _ _ => trivial) trivial rfl rfl (by k_ne) (fun w hw => ⟨run_eq_of (fun K hK => by skip; go_simp; exact hK), by skip; rw [listed_nil (by simp [go_sem, ev_min2, ev_max2, *])]; simp⟩) ?_
   walk_nrm
   refine f_val (F := Nw Gd SB A w0 w1 C f V #[.int .i64 b.worn, .int .i64 (tornN b.pages : Int)]) Nw.tp hN rfl rfl (by k_ne) (v := .int .i64 ((tornN b.pages : Int))) (fun w hw => ⟨run_eq_of (fun K hK => by have h0 := hw.cell 1; simp only [List.getElem?_toArray, List.getElem?_cons_succ, List.getElem?_cons_zero] at h0; go_simp; exact hK), by have h0 := hw.cell 1; simp only [List.getElem?_toArray, List.getElem?_cons_succ, List.getElem?_cons_zero] at h0; intro e he; have hm := mem_listed he; simp [go_sem, *] at hm; subst hm; exact ⟨hw.nsb, hw.lt⟩⟩) ?_
   walk_nrm
   refine f_val (F := fun _ => True) (fun _ _ _ _ => trivial) trivial rfl rfl (by k_ne) (fun w hw => ⟨run_eq_of (fun K hK => by have hx := hx3; go_simp; exact hK), by have hx := hx3; rw [listed_nil (by simp [go_sem, ev_min2, ev_max2, *])]; simp⟩) ?_
   walk_nrm
   refine f_val (F := fun _ => True) (fun _ _ _ _ => trivial) trivial rfl rfl (by k_ne) (fun w hw => ⟨run_eq_of (fun K hK => by skip; go_simp; exact hK), by skip; rw [listed_nil (by simp [go_sem, ev_min2, ev_max2, *])]; simp⟩) ?_
   walk_nrm
   refine f_ctl rfl (fun w => stepG_region_end) ?_
   refine f_ctl rfl (fun w => stepG_inBlock) ?_
   refine f_ctl rfl (fun w => stepG_region) ?_
   simp only [List.size_toArray, List.length_cons, List.length_nil, Nat.reduceAdd, Nat.zero_add, List.range, List.range.loop]
   refine f_val (F := fun _ => True) (fun _ _ _ _ => trivial) trivial rfl rfl (by k_ne) (fun w hw => ⟨run_eq_of (fun K hK => by have hk1 := hk1; go_simp; exact hK), by have hk1 := hk1; rw [listed_nil (by simp [go_sem, ev_min2, ev_max2, *])]; simp⟩) ?_
   walk_nrm
   refine f_val (F := fun _ => True) (fun _ _ _ _ => trivial) trivial rfl rfl (by k_ne) (fun w hw => ⟨run_eq_of (fun K hK => by skip; go_simp; exact hK), by skip; rw [listed_nil (by simp [go_sem, ev_min2, ev_max2, *])]; simp⟩) ?_
   walk_nrm
   refine f_ctl rfl (fun w => stepG_region_end) ?_
   refine f_ctl rfl (fun w => stepG_inLoop) ?_
   have htk : f.take (k + 1) = f.take k ++ [b] := by rw [List.take_add_one, hb]; rfl
   have hy3 : IntKind.i64.wrap (wTorn (f.take k) + (tornN b.pages : Int)) = wTorn (f.take k) + (tornN b.pages : Int) := by have := wTorn_small hok (k := k); have := tornN_le b.pages; have := hbl; rw [IntKind.wrap_i64]; omega
   have e3 : wTorn (f.take k) + (tornN b.pages : Int) = wTorn (f.take (k + 1)) := by rw [htk]; unfold wTorn; rw [List.foldl_append]; rfl
   have ih2 := fun T => ih (k + 1) T w (by omega)
   simp only [wLostB, wLostT, Try.f17] at ih2
   refine ih2 _ rfl ?_ rfl rfl ?_ hN.wk
   all_goals first | (show some (Value.int .i64 _) = some (Value.int .i64 _); first | (rw [← e3]; done) | (rw [← e3, hy3]; done) | rfl) | rfl
/-- ████ impl.WearLost. ████ -/
theorem Co.wearLost {ad : Option Addr} {c : Nat} (co : Co (good Gd) SB A w0 w) (hv : VIn (good Gd) A (.slice ad f.length c)) (hf : Fl (cutW (good Gd) w) ad f)
 (next : ∀ w' SB' A', (∀ b, A b → A' b) → Co (good Gd) SB' A' w0 w' → Bel w w' → Fine Try.prog Post SB' (G (cc.finish (.int .i64 (if flashOk f then wTorn f else -1))) rest) w') :
 Fine Try.prog Post SB (G (Frame.enter Try.prog 17 #[.slice ad f.length c] .normal) (cc :: rest)) w := by
 rw [enter_at _ Try.func17 rfl]
 walk_nrmf Try.f17
 refine f_ctl rfl (fun w => stepG_seq) ?_
 refine f_ctl rfl (fun w => stepG_region) ?_
 simp only [List.size_toArray, List.length_cons, List.length_nil, Nat.reduceAdd, Nat.zero_add, List.range, List.range.loop]
 refine f_val (F := fun _ => True) (fun _ _ _ _ => trivial) trivial rfl rfl (by k_ne) (fun w hw => ⟨run_eq_of (fun K hK => by skip; go_simp; exact hK), by skip; rw [listed_nil (by simp [go_sem, ev_min2, ev_max2, *])]; simp⟩) ?_
 walk_nrm
 refine f_ctl rfl (fun w => stepG_region_end) ?_
 refine f_ctl rfl (fun w => stepG_seq) ?_
 refine f_ctl rfl (fun w => stepG_seq) ?_
 refine f_ctl rfl (fun w => stepG_region) ?_
 simp only [List.size_toArray, List.length_cons, List.length_nil, Nat.reduceAdd, Nat.zero_add, List.range, List.range.loop]
 refine f_val (F := fun _ => True) (fun _ _ _ _ => trivial) trivial rfl rfl (by k_ne) (fun w hw => ⟨run_eq_of (fun K hK => by skip; go_simp; exact hK), by skip; rw [listed_nil (by simp [go_sem, ev_min2, ev_max2, *])]; simp⟩) ?_
 walk_nrm
 refine f_enter rfl rfl (by k_ne) rfl Try.func31 rfl rfl ?_
 walk_nrm
 refine co.call (R := fun v _ => v = .bool (flashOk f)) (fun _ _ _ _ h => h) (by kernel_rfl) (fun v hx => by simp at hx; subst hx; exact hv) (fun T d => (impl_FlashOk f ad c (Go.Proofs.Ytclnogfmmekooaa.tp (cutW (good Gd) w) T d) (hf.bel (Bel.tp _ T d))).mono fun e w' ⟨h1, h2⟩ => ⟨_, h1, rfl, h2⟩) ?_
 intro A1 v w1 hA co1 hb1 _ hv1
 subst hv1
 rw [Frame.finish_at]
 walk_nrm
 refine f_val (F := fun _ => True) (fun _ _ _ _ => trivial) trivial rfl rfl (by k_ne) (fun w hw => ⟨run_eq_of (fun K hK => by skip; go_simp; exact hK), by skip; rw [listed_nil (by simp [go_sem, ev_min2, ev_max2, *])]; simp⟩) ?_
 walk_nrm
 refine f_ctl rfl (fun w => stepG_region_end) ?_
 cases hok : flashOk f with
 | false =>
   refine f_ctl rfl (fun w => stepG_cond (t := true) (by simp [Act.eval, hok])) ?_
   simp only [if_true, Bool.false_eq_true, if_false]
   refine f_ctl rfl (fun w => stepG_seq) ?_
   refine f_ctl rfl (fun w => stepG_region) ?_
   simp only [List.size_toArray, List.length_cons, List.length_nil, Nat.reduceAdd, Nat.zero_add, List.range, List.range.loop]
   refine f_val (F := fun _ => True) (fun _ _ _ _ => trivial) trivial rfl rfl (by k_ne) (fun w hw => ⟨run_eq_of (fun K hK => by skip; go_simp; exact hK), by skip; rw [listed_nil (by simp [go_sem, ev_min2, ev_max2, *])]; simp⟩) ?_
   walk_nrm
   refine f_ctl rfl (fun w => stepG_region_end) ?_
   refine f_ctl rfl (fun w => stepG_ret') ?_
   refine f_leave rfl rfl Try.func17 (fun w => ⟨?_, ?_⟩) (v := .int .i64 (-1)) ?_
   · simp [results, Try.f17, go_sem]
   · rw [show (results Try.f17 _).events Try.prog w #[] = #[] by simp [results, Try.f17, go_sem]]
     rfl
   · have := next w1 SB A1 hA co1 hb1
     rw [hok] at this
     simpa using this
 | true =>
   have h4 := (flash_four hok).1
   rw [h4] at hv ⊢
   refine f_ctl rfl (fun w => stepG_cond (t := false) (by simp [Act.eval, hok])) ?_
   simp only [if_true, Bool.false_eq_true, if_false]
   refine f_ctl rfl (fun w => stepG_skip) ?_
   refine f_ctl rfl (fun w => stepG_seq) ?_
   refine f_ctl rfl (fun w => stepG_region) ?_
   simp only [List.size_toArray, List.length_cons, List.length_nil, Nat.reduceAdd, Nat.zero_add, List.range, List.range.loop]
   refine f_val (F := fun _ => True) (fun _ _ _ _ => trivial) trivial rfl rfl (by k_ne) (fun w hw => ⟨run_eq_of (fun K hK => by skip; go_simp; exact hK), by skip; rw [listed_nil (by simp [go_sem, ev_min2, ev_max2, *])]; simp⟩) ?_
   walk_nrm
   refine f_ctl rfl (fun w => stepG_region_end) ?_
   refine f_ctl rfl (fun w => stepG_seq) ?_
   refine f_ctl rfl (fun w => stepG_seq) ?_
   refine f_ctl rfl (fun w => stepG_region) ?_
   simp only [List.size_toArray, List.length_cons, List.length_nil, Nat.reduceAdd, Nat.zero_add, List.range, List.range.loop]
   refine f_val (F := fun _ => True) (fun _ _ _ _ => trivial) trivial rfl rfl (by k_ne) (fun w hw => ⟨run_eq_of (fun K hK => by skip; go_simp; exact hK), by skip; rw [listed_nil (by simp [go_sem, ev_min2, ev_max2, *])]; simp⟩) ?_
   walk_nrm
   refine f_enter rfl rfl (by k_ne) rfl Try.func32 rfl rfl ?_
   walk_nrm
   refine Co.wearEach co1 (hv.mono hA) (hf.bel hb1.cut) h4 (fun b hb => ((flash_four hok).2 b hb).1) ?_
   intro w2 C W co2 hb2 hC hcell
   rw [Frame.finish_at]
   walk_nrm
   refine f_val (F := fun _ => True) (fun _ _ _ _ => trivial) trivial rfl rfl (by k_ne) (fun w hw => ⟨run_eq_of (fun K hK => by skip; go_simp; exact hK), by skip; rw [listed_nil (by simp [go_sem, ev_min2, ev_max2, *])]; simp⟩) ?_
   walk_nrm
   refine f_val (F := fun _ => True) (fun _ _ _ _ => trivial) trivial rfl rfl (by k_ne) (fun w hw => ⟨run_eq_of (fun K hK => by skip; go_simp; exact hK), by skip; rw [listed_nil (by simp [go_sem, ev_min2, ev_max2, *])]; simp⟩) ?_
   walk_nrm
   refine f_ctl rfl (fun w => stepG_region_end) ?_
   refine f_ctl rfl (fun w => stepG_block) ?_
   refine f_ctl rfl (fun w => stepG_loop) ?_
   have hW : Wk Gd (fun b => SB b ∨ b = W) (fun b => A1 b ∨ b = C) w0 w2 C f w2 := ⟨co2, .refl w2, hcell, .inr rfl⟩
   have hl := fun T w => wLostLoop (Gd := Gd) (SB := fun b => SB b ∨ b = W) (A := fun b => A1 b ∨ b = C) (w0 := w0) (w1 := w2) (C := C) (Post := Post) (cc := cc) (rest := rest) hok (fun w3 hW3 => by
    have := next w3 _ _ (fun b hb => .inl (hA b hb)) hW3.co (hb1.trans (hb2.trans hW3.bel))
    rw [hok] at this
    simpa using this) 4 0 T w rfl
   simp only [wLostB, wLostT, Try.f17] at hl
   exact hl _ w2 rfl rfl rfl rfl rfl hW
end
end Go.Proofs.Ytclnogfmmekooaa
namespace Go.Proofs.Ytclnogfmmekooaa
set_option linter.unusedVariables false
set_option linter.unusedSimpArgs false
open Go.RowKit
theorem made_get (z : Array Value) (n j : Nat) (hz : 0 < z.size) (hj : j < n) : (madeCells z n).toList[j]? = z.toList[j % z.size]? := by
 have hm : j % z.size < z.size := Nat.mod_lt _ hz
 simp [madeCells, hj, hm]
theorem flat_rep {α : Type} (g : α → List Value) (x : α) (m : Nat) (hm : (g x).length = m) (h0 : 0 < m) (n : Nat) : ∀ j : Nat, j < n * m → ((List.replicate n x).flatMap g)[j]? = (g x)[j % m]? := by
 induction n with
 | zero => intro j h; omega
 | succ n ih =>
   intro j h
   rw [Nat.succ_mul] at h
   simp only [List.replicate_succ, List.flatMap_cons]
   by_cases hj : j < m
   · rw [List.getElem?_append_left (by omega), Nat.mod_eq_of_lt hj]
   · have h1 := ih (j - m) (by omega)
     rw [List.getElem?_append_right (by omega), hm, h1, Nat.mod_eq_sub_mod (by omega : j ≥ m)]
theorem made_list {α : Type} (g : α → List Value) (x : α) (z : Array Value) (m : Nat) (hm : z.size = m) (hz : z.toList = g x) (h0 : 0 < z.size) (n : Nat) : (madeCells z (n * m)).toList = (List.replicate n x).flatMap g := by
 subst hm
 have hl : (g x).length = z.size := by rw [← hz]; simp
 refine List.ext_getElem? fun j => ?_
 by_cases hj : j < n * z.size
 · rw [made_get z _ j h0 hj, flat_rep g x z.size hl h0 n j hj, hz]
 · have e : ∀ k : Nat, ((List.replicate k x).flatMap g).length = k * z.size := by
    intro k
    induction k with
    | zero => simp
    | succ k ih => rw [List.replicate_succ, List.flatMap_cons, List.length_append, ih, hl, Nat.succ_mul]; omega
   rw [List.getElem?_eq_none (by rw [Array.length_toList, size_madeCells]; omega), List.getElem?_eq_none (by rw [e]; omega)]
theorem run_make_n {P : Program} (t e : TypeId) (i : TypeInfo) (z : Value) (size bytes : Nat) (ht : P.underlying t = some (.slice e)) (hi : P.info? e = some i) (hz : i.zero = some z) (hs : i.size = size) (hb : i.bytes = bytes) (n : Nat) (hn : n * bytes ≤ 281474976710656) (h63 : n ≤ 9223372036854775807) (w : World) :
 (Instr.makeSlice t (.int .i64 (n : Int)) (.int .i64 (n : Int))).run P w = .ok (.slice (some ⟨w.heap.size, 0, none⟩) n n) (w.alloc (.cells (madeCells z.cells (n * size)) e)) := by
 subst hs; subst hb
 have h : (i.bytes : Int) * (n : Int) ≤ 281474976710656 := by
  have h' : ((i.bytes * n : Nat) : Int) ≤ 281474976710656 := by rw [Nat.mul_comm]; omega
  rwa [Int.natCast_mul] at h'
 have hr := run_make (P := P) w t e i z ht hi hz .i64 .i64 n n (by omega) (by omega) h (by omega)
 simp only [Int.toNat_natCast] at hr
 exact hr
theorem hdrs_rep : ∀ n : Nat, hdrs (List.replicate n zbk) (List.replicate n (none, 0)) = (List.replicate n ()).flatMap (fun _ => [Value.slice none 0 0, .int .i64 0])
 | 0 => rfl
 | n + 1 => by simp only [List.replicate_succ, List.flatMap_cons, hdrs, hdrs_rep n]; rfl
/-- cells that can be read -/
def RRow (w : World) (A : Option Addr) (vs : List Value) : Prop := vs ≠ [] → ∃ b o, A = some ⟨b, o, none⟩ ∧ ∀ j u, vs[j]? = some u → w.cell? ⟨b, o + j, none⟩ = some u
theorem RRow.below {w w' : World} {A : Option Addr} {vs : List Value} {B : Nat} (h : RRow w A vs) (hb : Below B w w') (hB : w.heap.size ≤ B) : RRow w' A vs := fun hn => by
 obtain ⟨b, o, rfl, hc⟩ := h hn
 exact ⟨b, o, rfl, fun j u hj => (hb.cell (p := ⟨b, o + j, none⟩) (by have := lt_of_cell (hc j u hj); show b < B; omega)).trans (hc j u hj)⟩
theorem RRow.alloc {w : World} {A : Option Addr} {vs : List Value} (h : RRow w A vs) (o : Obj) : RRow (w.alloc o) A vs := h.below ((Below.refl _ _).alloc (Nat.le_refl _) o) (Nat.le_refl _)
theorem RRow.addr {w : World} {A : Option Addr} {vs : List Value} (h : RRow w A vs) (hn : vs ≠ []) : ∃ b o, A = some ⟨b, o, none⟩ := by
 obtain ⟨b, o, rfl, _⟩ := h hn; exact ⟨b, o, rfl⟩
theorem RRow.pg {w : World} {b o k : Nat} {ps : List Pg} {p : Pg} (h : RRow w (some ⟨b, o, none⟩) (pgs ps)) (hk : ps[k]? = some p) :
 w.cell? ⟨b, o + k * 5, none⟩ = some (.int .i64 p.state) ∧ w.cell? ⟨b, o + k * 5 + 1, none⟩ = some (.int .i64 p.rc.kind) ∧ w.cell? ⟨b, o + k * 5 + 2, none⟩ = some (.int .i64 p.rc.seq) ∧
  w.cell? ⟨b, o + k * 5 + 3, none⟩ = some (.int .i64 p.rc.addr) ∧ w.cell? ⟨b, o + k * 5 + 4, none⟩ = some (.int .i64 p.rc.val) := by
 have hlt := (List.getElem?_eq_some_iff.1 hk).1
 obtain ⟨b', o', he, hc⟩ := h (by intro e; have := pgs_len ps; rw [e] at this; simp at this; omega)
 cases he
 have hg : ∀ j u, p.vs[j]? = some u → j < 5 → w.cell? ⟨b, o + (k * 5 + j), none⟩ = some u := fun j u hj hl => hc (k * 5 + j) u (by rw [pgs, flat_get _ 5 (fun _ => rfl) ps k j p hk hl]; exact hj)
 exact ⟨hg 0 _ rfl (by omega), hg 1 _ rfl (by omega), hg 2 _ rfl (by omega), hg 3 _ rfl (by omega), hg 4 _ rfl (by omega)⟩
structure RBks (w : World) (A : Option Addr) (f : List Bk) (hs : List (Option Addr × Nat)) : Prop where
 len : hs.length = f.length
 row : RRow w A (hdrs f hs)
 pg : ∀ (i : Nat) (b : Bk) (x : Option Addr × Nat), f[i]? = some b → hs[i]? = some x → RRow w x.1 (pgs b.pages)
theorem RBks.below {w w' : World} {A : Option Addr} {f : List Bk} {hs : List (Option Addr × Nat)} {B : Nat} (h : RBks w A f hs) (hb : Below B w w') (hB : w.heap.size ≤ B) : RBks w' A f hs :=
 ⟨h.len, h.row.below hb hB, fun i b x h1 h2 => (h.pg i b x h1 h2).below hb hB⟩
theorem RBks.addr {w : World} {A : Option Addr} {f : List Bk} {hs : List (Option Addr × Nat)} (h : RBks w A f hs) (hn : f ≠ []) : ∃ b o, A = some ⟨b, o, none⟩ :=
 h.row.addr (by
  intro e
  have hl := hdrs_len f hs h.len
  rw [e] at hl
  exact hn (List.eq_nil_of_length_eq_zero (by simp at hl; omega)))
theorem RBks.at_ {w : World} {g o i : Nat} {f : List Bk} {hs : List (Option Addr × Nat)} {b : Bk} (h : RBks w (some ⟨g, o, none⟩) f hs) (hi : f[i]? = some b) :
 ∃ x, hs[i]? = some x ∧ w.cell? ⟨g, o + i * 2, none⟩ = some (.slice x.1 b.pages.length x.2) ∧ w.cell? ⟨g, o + i * 2 + 1, none⟩ = some (.int .i64 b.worn) ∧ RRow w x.1 (pgs b.pages) := by
 have hlt := (List.getElem?_eq_some_iff.1 hi).1
 obtain ⟨x, hx⟩ := get_some (l := hs) (k := i) (by rw [h.len]; exact hlt)
 obtain ⟨g1, g2⟩ := hdrs_get f hs i b x hi hx
 obtain ⟨b', o', he, hc⟩ := h.row (by intro e; rw [e] at g1; simp at g1)
 cases he
 exact ⟨x, hx, hc _ _ g1, hc _ _ g2, h.pg i b x hi hx⟩
end Go.Proofs.Ytclnogfmmekooaa
namespace Go.Proofs.Ytclnogfmmekooaa
set_option linter.unusedVariables false
set_option linter.unusedSimpArgs false
open Go.RowKit Go.Maps
set_option maxHeartbeats 400000
theorem xor_i64 (a b : Nat) (ha : a < 9223372036854775808) (hb : b < 9223372036854775808) : bits .xor .i64 (a : Int) (b : Int) = ((a ^^^ b : Nat) : Int) := by
 have hx : a ^^^ b < 2 ^ 63 := Nat.xor_lt_two_pow (by omega) (by omega)
 have h1 : (BitVec.ofInt 64 (a : Int)).toNat = a := by
  rw [BitVec.ofInt_natCast, BitVec.toNat_ofNat]; exact Nat.mod_eq_of_lt (by omega)
 have h2 : (BitVec.ofInt 64 (b : Int)).toNat = b := by
  rw [BitVec.ofInt_natCast, BitVec.toNat_ofNat]; exact Nat.mod_eq_of_lt (by omega)
 show IntKind.i64.wrap ((BitVec.ofInt 64 (a : Int) ^^^ BitVec.ofInt 64 (b : Int)).toNat : Int) = _
 rw [BitVec.toNat_xor, h1, h2]
 exact IntWalk.i64_in _ (by omega)
def bytes (bs : List Nat) : List Value := bs.map fun (b : Nat) => Value.int .u8 (b : Int)
/-- a reader in block R, above B, of a code that lies below B; its place is not above m -/
def Rd (w : World) (B R m : Nat) : Prop :=
 ∃ (A : Option Addr) (bs : List Nat) (c p : Nat), w.cell? ⟨R, 0, none⟩ = some (.slice A bs.length c) ∧ w.cell? ⟨R, 1, none⟩ = some (.int .i64 p) ∧ w.frozen? ⟨R, 1, none⟩ = false ∧ p ≤ m ∧ bs.length ≤ 2000 ∧ (∀ b ∈ bs, b < 256) ∧
   RRow w A (bytes bs) ∧ (bs ≠ [] → ∀ b, blk A b → b < B) ∧ B ≤ R
theorem Rd.lt {w : World} {B R m : Nat} (h : Rd w B R m) : R < w.heap.size := by obtain ⟨A, bs, c, p, h1, _⟩ := h; exact lt_of_cell h1
theorem Rd.le {w : World} {B R m : Nat} (h : Rd w B R m) : B ≤ R := by obtain ⟨A, bs, c, p, _, _, _, _, _, _, _, _, h⟩ := h; exact h
theorem Rd.mono {w : World} {B R m n : Nat} (h : Rd w B R m) (hm : m ≤ n) : Rd w B R n := by
 obtain ⟨A, bs, c, p, h1, h2, h3, h4, h5⟩ := h
 exact ⟨A, bs, c, p, h1, h2, h3, by omega, h5⟩
theorem bytes_ne {bs : List Nat} (h : bytes bs ≠ []) : bs ≠ [] := fun e => h (by rw [e]; rfl)
theorem ne_bytes {bs : List Nat} (h : bs ≠ []) : bytes bs ≠ [] := fun e => h (by simpa [bytes] using e)
theorem RRow.low {w : World} {A : Option Addr} {bs : List Nat} (h : RRow w A (bytes bs)) (hn : bs ≠ []) : ∀ b, blk A b → b < w.heap.size := fun b hb => by
 obtain ⟨b', o, rfl, hc⟩ := h (ne_bytes hn)
 rw [blk_some] at hb
 subst hb
 cases bs with
 | nil => exact absurd rfl hn
 | cons x bs => exact lt_of_cell (hc 0 _ rfl)
theorem RRow.keep {w w' : World} {A : Option Addr} {vs : List Value} (h : RRow w A vs) (hk : vs ≠ [] → ∀ b, blk A b → b < w.heap.size → w'.heap[b]? = w.heap[b]?) : RRow w' A vs := fun hn => by
 replace hk := hk hn
 obtain ⟨b, o, rfl, hc⟩ := h hn
 refine ⟨b, o, rfl, fun j u hj => ?_⟩
 have h1 := hc j u hj
 exact (World.cell?_of_block (a := ⟨b, o + j, none⟩) (hk b (blk_some.2 rfl) (lt_of_cell h1))).trans h1
/-- what leaves R's block and the blocks below B as they are leaves the reader -/
theorem Rd.keep {w w' : World} {B R m : Nat} (h : Rd w B R m) (hk : ∀ b, b = R ∨ b < B → b < w.heap.size → w'.heap[b]? = w.heap[b]?) : Rd w' B R m := by
 obtain ⟨A, bs, c, p, h1, h2, h3, h4, h5, h6, h7, h8, h9⟩ := h
 have hR := hk R (.inl rfl) (lt_of_cell h1)
 exact ⟨A, bs, c, p, (World.cell?_of_block (a := ⟨R, 0, none⟩) hR).trans h1, (World.cell?_of_block (a := ⟨R, 1, none⟩) hR).trans h2, (World.frozen?_of_block (a := ⟨R, 1, none⟩) hR).trans h3, h4, h5, h6, h7.keep fun hn b hb hl => hk b (.inr (h8 (bytes_ne hn) b hb)) hl, h8, h9⟩
theorem Rd.agr {w w' : World} {B R m : Nat} {S : Nat → Prop} (h : Rd w B R m) (ha : Agr S w w') (h1 : ¬ S R) (h2 : ∀ b, b < B → ¬ S b) : Rd w' B R m :=
 h.keep fun b hb hl => ha.block b hl (by rcases hb with rfl | hb; exact h1; exact h2 b hb)
theorem Rd.below {w w' : World} {B R m C : Nat} (h : Rd w B R m) (hb : Below C w w') (hC : w.heap.size ≤ C) : Rd w' B R m :=
 h.keep fun b _ hl => hb.block b (by omega)
theorem Rd.alloc {w : World} {B R m : Nat} (h : Rd w B R m) (o : Obj) : Rd (w.alloc o) B R m := h.below (C := w.heap.size) ((Below.refl _ _).alloc (Nat.le_refl _) _) (Nat.le_refl _)
theorem Rd.drew {w : World} {B R m : Nat} (h : Rd w B R m) : Rd w.drew B R m := h.keep fun _ _ _ => rfl
theorem Rd.drewN {w : World} {B R m : Nat} (h : Rd w B R m) (n : Nat) : Rd (w.drewN n) B R m := h.keep fun _ _ _ => rfl
theorem spec_l6Open (A : Option Addr) (bs : List Nat) (c : Nat) (w : World) (hbc : bs.length ≤ c) (hc : c ≤ 9223372036854775807) (hb : ∀ b ∈ bs, b < 256) (hA : RRow w A (bytes bs)) :
 Calls Try.prog 35 #[.slice A bs.length c] w fun e w' => e = .returned (.pointer (some ⟨w.heap.size, 0, none⟩)) ∧ Rd w' w.heap.size w.heap.size 0 ∧ Below w.heap.size w w' := by
 have key : ∀ (bs' : List Nat) (c' : Nat), (bs' ≠ [] → bs ≠ []) → bs'.length ≤ 2000 → (∀ b ∈ bs', b < 256) → RRow w A (bytes bs') → Rd (w.alloc (.cells #[.slice A bs'.length c', .int .i64 0] 100)) w.heap.size w.heap.size 0 := fun bs' c' h0 h1 h2 h3 =>
  ⟨A, bs', c', 0, by simp, by simp, by simp, Nat.le_refl _, h1, h2, h3.alloc _, fun hn => hA.low (h0 hn), Nat.le_refl _⟩
 by_cases hl : bs.length ≤ 2000
 · have hk := key bs c id hl hb hA
   go_enter Try.func35, Try.ntmps35
   go_wp2
   go_ret
   exact ⟨rfl, hk, by (repeat (first | (with_reducible exact Below.refl _ _) | (with_reducible assumption) | (refine Below.setCell ?_ (by first | omega | exact hB.size | exact hb.size | (have h := hB.size; simp; omega) | (have h := hb.size; simp; omega) | (simp; omega) | simp) _) | (refine Below.alloc ?_ (by first | omega | exact hB.size | exact hb.size | (have h := hB.size; simp; omega) | (have h := hb.size; simp; omega) | (simp; omega) | simp) _) | (refine Below.drew ?_)))⟩
 · have hk := key (bs.take 2000) c (fun h e => h (by rw [e]; rfl)) (by simp; omega) (fun b h => hb b (List.mem_of_mem_take h)) (fun hn => by
    have hne : bytes bs ≠ [] := by
     intro e
     have : bs = [] := by simpa [bytes] using e
     exact hn (by rw [this]; simp [bytes])
    obtain ⟨b, o, rfl, hcl⟩ := hA hne
    refine ⟨b, o, rfl, fun j u hj => hcl j u ?_⟩
    rw [bytes, List.map_take] at hj
    rw [List.getElem?_take] at hj
    split at hj
    · exact hj
    · cases hj)
   have hl2 : (2000 : Int) ≤ bs.length := by omega
   have hl3 : (2000 : Int) < bs.length := by omega
   rw [show (bs.take 2000).length = 2000 by simp; omega] at hk
   go_enter Try.func35, Try.ntmps35
   go_wp2
   go_ret
   exact ⟨rfl, hk, by (repeat (first | (with_reducible exact Below.refl _ _) | (with_reducible assumption) | (refine Below.setCell ?_ (by first | omega | exact hB.size | exact hb.size | (have h := hB.size; simp; omega) | (have h := hb.size; simp; omega) | (simp; omega) | simp) _) | (refine Below.alloc ?_ (by first | omega | exact hB.size | exact hb.size | (have h := hB.size; simp; omega) | (have h := hb.size; simp; omega) | (simp; omega) | simp) _) | (refine Below.drew ?_)))⟩
theorem byte_at {w : World} {b o k : Nat} {bs : List Nat} {x : Nat} (h : RRow w (some ⟨b, o, none⟩) (bytes bs)) (hk : bs[k]? = some x) : w.cell? ⟨b, o + k, none⟩ = some (.int .u8 (x : Int)) := by
 have hlt := (List.getElem?_eq_some_iff.1 hk).1
 obtain ⟨b', o', he, hc⟩ := h (by
  intro e
  have : bs = [] := by simpa [bytes] using e
  subst this; simp at hk)
 cases he
 exact hc k _ (by simp [bytes, hk])
theorem mod_lt' {x n : Nat} (h : 1 ≤ n) : x % n < n := Nat.mod_lt _ h
set_option maxHeartbeats 1000000 in
theorem spec_pick (n B R m : Nat) (w : World) (hn : 1 ≤ n) (hn2 : n ≤ 1000000) (hm : m ≤ 1000000) (hR : Rd w B R m) :
 Calls Try.prog 57 #[.pointer (some ⟨R, 0, none⟩), .int .i64 n] w fun e w' => ∃ k : Nat, e = .returned (.int .i64 k) ∧ k < n ∧ Rd w' B R (m + 1) ∧ Agr (· = R) w w' := by
 obtain ⟨A, bs, c, p, h0, h1, h2, h3, h4, h5, h6, h7, h8⟩ := hR
 have hRl := lt_of_cell h0
 have hW := wrote_one h1 (.int .i64 (p + 1))
 have hA : Agr (· = R) w (w.setCell ⟨R, 1, none⟩ (.int .i64 (p + 1))) := hW.agr
 have g0 : (w.setCell ⟨R, 1, none⟩ (.int .i64 (p + 1))).cell? ⟨R, 0, none⟩ = some (.slice A bs.length c) := (hW.old_ 0 (by omega)).trans h0
 have g1 : (w.setCell ⟨R, 1, none⟩ (.int .i64 (p + 1))).cell? ⟨R, 1, none⟩ = some (.int .i64 ((p + 1 : Nat) : Int)) := hW.new_ 0 _ rfl
 have hRd : Rd (w.setCell ⟨R, 1, none⟩ (.int .i64 (p + 1))) B R (m + 1) :=
  ⟨A, bs, c, p + 1, g0, g1, (hW.frozen _).trans h2, by omega, h4, h5, h6.keep fun hn b hb hl => hA.block b hl (by have := h7 (bytes_ne hn) b hb; omega), h7, h8⟩
 have hrow : RRow (w.setCell ⟨R, 1, none⟩ (.int .i64 (p + 1))) A (bytes bs) := h6.keep fun hn b hb hl => hA.block b hl (by have := h7 (bytes_ne hn) b hb; omega)
 clear hW
 have e1 : IntKind.i64.wrap ((p : Int) + 1) = (p : Int) + 1 := IntWalk.i64_in _ (by omega)
 have g1' : (w.setCell ⟨R, 1, none⟩ (.int .i64 (p + 1))).cell? ⟨R, 1, none⟩ = some (.int .i64 ((p : Int) + 1)) := by rw [g1]; rfl
 clear g1
 by_cases hb0 : bs.length = 0
 · have hnil : bs = [] := List.length_eq_zero_iff.1 hb0
   subst hnil
   clear hrow hb0
   go_enter Try.func57, Try.ntmps57
   go_wp2
   go_ret
   exact ⟨0, rfl, by omega, hRd, hA⟩
 · have hbe : ((bs.length : Int) == 0) = false := by rw [beq_eq_false_iff_ne]; omega
   have hn1 : ¬ (n : Int) < 1 := by omega
   by_cases hlt : p < bs.length
   · obtain ⟨x, hx⟩ := get_some hlt
     obtain ⟨b, o, rfl⟩ : ∃ b o, A = some ⟨b, o, none⟩ := h6.addr (by
      intro e
      have : bs = [] := by simpa [bytes] using e
      rw [this] at hlt; simp at hlt)
     have hbR : b < R := by have := h7 (by rintro rfl; simp at *) b (blk_some.2 rfl); omega
     have hc := byte_at h6 hx
     have hx2 := h5 x (List.mem_of_getElem? hx)
     have hpl : (p : Int) < bs.length := by omega
     have hmod : ((x : Int).tmod (n : Int)) = ((x % n : Nat) : Int) := by rw [Int.tmod_eq_emod_of_nonneg (by omega)]; rfl
     have hk := mod_lt' (x := x) hn
     clear hrow
     have HX := Lib.hid hx
     have HM := Lib.hid hmod
     clear hx hmod
     go_enter Try.func57, Try.ntmps57
     go_wp2
     go_ret
     exact ⟨x % n, ret_int (by simp), hk, hRd, hA⟩
   · obtain ⟨b, o, rfl⟩ : ∃ b o, A = some ⟨b, o, none⟩ := h6.addr (by
      intro e
      have : bs = [] := by simpa [bytes] using e
      rw [this] at hb0; simp at hb0)
     have hbR : b < R := by have := h7 (by rintro rfl; simp at *) b (blk_some.2 rfl); omega
     have hL0 : 1 ≤ bs.length := by omega
     obtain ⟨x, hx⟩ := get_some (mod_lt' (x := p) hL0)
     obtain ⟨y, hy⟩ := get_some (mod_lt' (x := p * 7 + 3) hL0)
     have hc := byte_at h6 hx
     have hc' := byte_at h6 hy
     have hx2 := h5 x (List.mem_of_getElem? hx)
     have hy2 := h5 y (List.mem_of_getElem? hy)
     have hpl : (bs.length : Int) ≤ p := by omega
     have hL1 : (1 : Int) ≤ bs.length := by omega
     have hdl : p / bs.length ≤ p := Nat.div_le_self _ _
     have m1 := mod_lt' (x := p) hL0
     have m2 := mod_lt' (x := p * 7 + 3) hL0
     have v1 : (p : Int).tmod (bs.length : Int) = ((p % bs.length : Nat) : Int) := by rw [Int.tmod_eq_emod_of_nonneg (by omega)]; rfl
     have v2 : ((p : Int) * 7 + 3).tmod (bs.length : Int) = (((p * 7 + 3) % bs.length : Nat) : Int) := by rw [Int.tmod_eq_emod_of_nonneg (by omega)]; rfl
     have v3 : (p : Int).tdiv (bs.length : Int) = ((p / bs.length : Nat) : Int) := by rw [Int.tdiv_eq_ediv_of_nonneg (by omega)]; rfl
     generalize p / bs.length = q at *
     generalize p % bs.length = q1 at *
     generalize (p * 7 + 3) % bs.length = q2 at *
     have n1 : (q1 : Int) < bs.length := by omega
     have n2 : (q2 : Int) < bs.length := by omega
     have w1 : IntKind.i64.wrap ((p : Int) * 7) = (p : Int) * 7 := IntWalk.i64_in _ (by omega)
     have w2 : IntKind.i64.wrap ((p : Int) * 7 + 3) = (p : Int) * 7 + 3 := IntWalk.i64_in _ (by omega)
     have w3 : IntKind.i64.wrap ((x : Int) * 131) = (x : Int) * 131 := IntWalk.i64_in _ (by omega)
     have w4 : IntKind.i64.wrap ((y : Int) * 1117) = (y : Int) * 1117 := IntWalk.i64_in _ (by omega)
     have w5 : IntKind.i64.wrap ((x : Int) * 131 + (y : Int) * 1117) = (x : Int) * 131 + (y : Int) * 1117 := IntWalk.i64_in _ (by omega)
     have w6 : IntKind.i64.wrap ((p : Int) * 29) = (p : Int) * 29 := IntWalk.i64_in _ (by omega)
     have w7 : IntKind.i64.wrap ((x : Int) * 131 + (y : Int) * 1117 + (p : Int) * 29) = (x : Int) * 131 + (y : Int) * 1117 + (p : Int) * 29 := IntWalk.i64_in _ (by omega)
     have w8 : IntKind.i64.wrap ((q : Int) * 53) = (q : Int) * 53 := IntWalk.i64_in _ (by omega)
     have w9 : IntKind.i64.wrap ((x : Int) * 131 + (y : Int) * 1117 + (p : Int) * 29 + (q : Int) * 53) = (x : Int) * 131 + (y : Int) * 1117 + (p : Int) * 29 + (q : Int) * 53 := IntWalk.i64_in _ (by omega)
     clear hx hy
     go_enter Try.func57, Try.ntmps57
     go_wp2
     go_quiet (fail)
     obtain ⟨X, hX, hXl⟩ : ∃ X : Nat, (x : Int) * 131 + (y : Int) * 1117 + (p : Int) * 29 + (q : Int) * 53 = (X : Int) ∧ X < 1000000000000 := ⟨x * 131 + y * 1117 + p * 29 + q * 53, by simp, by omega⟩
     rw [hX]
     clear hX w1 w2 w3 w4 w5 w6 w7 w8 w9 v1 v2 v3
     have hx1 : bits .xor .i64 (X : Int) ((X : Int) / 64) = ((X ^^^ X / 64 : Nat) : Int) := xor_i64 X (X / 64) (by omega) (by omega)
     have hx2 : bits .xor .i64 (X : Int) ((X : Int).tdiv 64) = ((X ^^^ X / 64 : Nat) : Int) := by rw [Int.tdiv_eq_ediv_of_nonneg (by omega)]; exact hx1
     generalize X ^^^ X / 64 = z at *
     have hk := mod_lt' (x := z) hn
     have hmod : ((z : Int).tmod (n : Int)) = ((z % n : Nat) : Int) := by rw [Int.tmod_eq_emod_of_nonneg (by omega)]; rfl
     have HM := Lib.hid hmod
     clear hmod
     go_wp2
     go_ret
     exact ⟨z % n, ret_int (by simp), hk, hRd.drewN _, hA.drewN _⟩
end Go.Proofs.Ytclnogfmmekooaa
