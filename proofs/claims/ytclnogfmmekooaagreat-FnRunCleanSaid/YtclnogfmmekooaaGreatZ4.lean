/- What the laws' walks share: words, plain laws, and the walks of functions, part 4. -/
import Derived.Test.YtclnogfmmekooaaGreatProg
import Derived.KernelRfl
import Derived.Orders
import Derived.Lib.Hide
import Derived.Deep.RegionHeld3
import Derived.BigQuiet
import Derived.Laws.MakeOwn
import Derived.Laws.Bits64
import Derived.Deep.Slices
import Derived.StillTailTactics
import Derived.Deep.RegionLaw
import Derived.Deep.RegionWith
import Derived.WalkKit
import Derived.Test.YtclnogfmmekooaaGreatZ3
set_option linter.unusedVariables false
set_option linter.unusedSimpArgs false
set_option maxHeartbeats 16000000
set_option maxRecDepth 100000
namespace Go.Proofs.YtclnogfmmekooaaGreat
section
open Go.Conc Go.ConcN Go.ConcR.Gen Go.RowKit Go.Conc.Lib
open Go.ConcR (KK WgAt DC0)
def q8 (f : List Bk) : List Value := f.flatMap fun b => [.int .i64 b.worn, .int .i64 (tornN b.pages : Int)]
def wres (f : List Bk) (k : Nat) : List (Nat × Value) := match f[k]? with
 | some b => [(k * 2, .int .i64 b.worn), (k * 2 + 1, .int .i64 (tornN b.pages : Int))]
 | none => []
theorem zdv {f : List Bk} {k : Nat} {b : Bk} (h : f[k]? = some b) : wres f k = [(k * 2, .int .i64 b.worn), (k * 2 + 1, .int .i64 (tornN b.pages : Int))] := by simp [wres, h]
theorem zho {f : List Bk} {k off : Nat} {v : Value} (h : (off, v) ∈ wres f k) : off / 2 = k := by
 unfold wres at h
 split at h
 . simp at h; omega
 . simp at h
theorem zji (w : World) : (Instr.makeSlice 55 (.int .i64 4) (.int .i64 4)).run Tryz.prog w = .ok (.slice (some ⟨w.heap.size, 0, none⟩) 4 4) (w.alloc (.cells #[.int .i64 0, .int .i64 0, .int .i64 0, .int .i64 0, .int .i64 0, .int .i64 0, .int .i64 0, .int .i64 0] 58)) := by kernel_rfl
theorem zgy (w : World) : (Instr.makeSlice 55 (.int .i64 4) (.int .i64 4)).events Tryz.prog w #[] = #[] := by kernel_rfl
section
variable {Post : Value -> World -> Prop} {SB : Nat -> Prop} {w0 : World} {A ao c : Nat} {f : List Bk} {hs : List (Option Addr × Nat)} {cc : Frame} {cs : List Frame}
theorem we0 (hSB : ∀ b, SB b -> b < w0.heap.size)
 (next : ∀ w T, PH w0 [(w0.heap.size + 3, .cells #[.int .u64 0, .int .u32 0] 113), (w0.heap.size + 2, .cells #[.slice (some ⟨w0.heap.size + 1, 0, none⟩) 4 4] 55), (w0.heap.size + 1, .cells #[.int .i64 0, .int .i64 0, .int .i64 0, .int .i64 0, .int .i64 0, .int .i64 0, .int .i64 0, .int .i64 0] 58), (w0.heap.size, .cells #[.slice (some ⟨A, ao, none⟩) 4 c] 25)] w -> T.size = 19 -> T[1]? = some (.pointer (some ⟨w0.heap.size, 0, none⟩)) -> T[3]? = some (.pointer (some ⟨w0.heap.size + 2, 0, none⟩)) -> T[4]? = some (.pointer (some ⟨w0.heap.size + 3, 0, none⟩)) -> T[10]? = some (.int .i64 4) -> T[11]? = some (.int .i64 0) ->
  ku Tryz.prog Post SB (w0.heap.size + 3) (G ((base 30).at ⟨T, []⟩ [.code weB, .inLoop weB, .inBlock 0, .code weT]) (cc :: cs)) w) :
 Fine Tryz.prog Post SB (G (Frame.enter Tryz.prog 30 #[.slice (some ⟨A, ao, none⟩) 4 c] .normal) (cc :: cs)) w0 := by
 unfold Fine
 refine ku.mono (B' := w0.heap.size + 3) ?_ (by omega)
 have hF := PH.refl w0
 rw [enter_at _ Tryz.func30 rfl]
 walk_nrmf Tryz.f30
 refine js rfl (fun w => stepG_seq) ?_
 refine js rfl (fun w => stepG_region) ?_
 simp only [sz, Nat.reduceAdd, Nat.zero_add, List.range, List.range.loop]
 refine zif (v := .pointer (some ⟨w0.heap.size, 0, none⟩)) hF rfl rfl (by k_ne) (.cells #[.slice (some ⟨A, ao, none⟩) 4 c] 25) (fun w hw hz => ⟨by simp only [List.length_cons, List.length_nil, Nat.reduceAdd, Nat.add_zero, Nat.zero_add] at hz; rw [← hz]; go_simp, listed_nil (by simp [go_sem, *])⟩) (fun w hF => ?_)
 replace hF : PH w0 [(w0.heap.size, .cells #[.slice (some ⟨A, ao, none⟩) 4 c] 25)] w := hF
 walk_nrm
 refine Yt hF rfl rfl (by k_ne) (fun w hw => ⟨run_eq_of (fun K hK => by go_simp; exact hK), by rw [listed_nil (by simp [go_sem, *])]; simp⟩) ?_
 walk_nrm
 refine js rfl (fun w => stepG_region_end) ?_
 refine js rfl (fun w => stepG_seq) ?_
 refine js rfl (fun w => stepG_region) ?_
 simp only [sz, Nat.reduceAdd, Nat.zero_add, List.range, List.range.loop]
 refine Yt hF rfl rfl (by k_ne) (fun w hw => ⟨run_eq_of (fun K hK => by have h0 : w.cell? ⟨w0.heap.size, 0, none⟩ = some (.slice (some ⟨A, ao, none⟩) 4 c) := (hw.cell (b := w0.heap.size) (cs := #[.slice (some ⟨A, ao, none⟩) 4 c]) (t := 25) (by simp) 0).trans rfl; go_simp; exact hK), by have h0 : w.cell? ⟨w0.heap.size, 0, none⟩ = some (.slice (some ⟨A, ao, none⟩) 4 c) := (hw.cell (b := w0.heap.size) (cs := #[.slice (some ⟨A, ao, none⟩) 4 c]) (t := 25) (by simp) 0).trans rfl; intro e he; have hm := mem_listed he; simp [go_sem, *] at hm; subst hm; exact ⟨fun hs => by have h := hSB _ hs; dsimp only at h; omega, by dsimp only; omega⟩⟩) ?_
 walk_nrm
 refine Yt hF rfl rfl (by k_ne) (fun w hw => ⟨run_eq_of (fun K hK => by go_simp; exact hK), by rw [listed_nil (by simp [go_sem, *])]; simp⟩) ?_
 walk_nrm
 refine zif (v := .slice (some ⟨w0.heap.size + 1, 0, none⟩) 4 4) hF rfl rfl (by k_ne) (.cells #[.int .i64 0, .int .i64 0, .int .i64 0, .int .i64 0, .int .i64 0, .int .i64 0, .int .i64 0, .int .i64 0] 58) (fun w hw hz => ⟨by simp only [List.length_cons, List.length_nil, Nat.reduceAdd, Nat.add_zero, Nat.zero_add] at hz; rw [← hz]; have mk := zji w; go_simp, listed_nil (by have mk := zgy w; simp [go_sem, *])⟩) (fun w hF => ?_)
 replace hF : PH w0 [(w0.heap.size + 1, .cells #[.int .i64 0, .int .i64 0, .int .i64 0, .int .i64 0, .int .i64 0, .int .i64 0, .int .i64 0, .int .i64 0] 58), (w0.heap.size, .cells #[.slice (some ⟨A, ao, none⟩) 4 c] 25)] w := hF
 walk_nrm
 refine zif (v := .pointer (some ⟨w0.heap.size + 2, 0, none⟩)) hF rfl rfl (by k_ne) (.cells #[.slice none 0 0] 55) (fun w hw hz => ⟨by simp only [List.length_cons, List.length_nil, Nat.reduceAdd, Nat.add_zero, Nat.zero_add] at hz; rw [← hz]; go_simp, listed_nil (by simp [go_sem, *])⟩) (fun w hF => ?_)
 replace hF : PH w0 [(w0.heap.size + 2, .cells #[.slice none 0 0] 55), (w0.heap.size + 1, .cells #[.int .i64 0, .int .i64 0, .int .i64 0, .int .i64 0, .int .i64 0, .int .i64 0, .int .i64 0, .int .i64 0] 58), (w0.heap.size, .cells #[.slice (some ⟨A, ao, none⟩) 4 c] 25)] w := hF
 walk_nrm
 refine zqq hF rfl rfl (by k_ne) (fun w => w.setCell ⟨w0.heap.size + 2, 0, none⟩ (.slice (some ⟨w0.heap.size + 1, 0, none⟩) 4 4)) (fun w hw => ⟨by have h0 : w.cell? ⟨w0.heap.size + 2, 0, none⟩ = some (.slice none 0 0) := (hw.cell (b := w0.heap.size + 2) (cs := #[.slice none 0 0]) (t := 55) (by simp) 0).trans rfl; have z0 := hw.thaw (b := w0.heap.size + 2) (cs := #[.slice none 0 0]) (t := 55) (by simp) 0; go_simp, by have h0 : w.cell? ⟨w0.heap.size + 2, 0, none⟩ = some (.slice none 0 0) := (hw.cell (b := w0.heap.size + 2) (cs := #[.slice none 0 0]) (t := 55) (by simp) 0).trans rfl; have z0 := hw.thaw (b := w0.heap.size + 2) (cs := #[.slice none 0 0]) (t := 55) (by simp) 0; intro e he; have hm := mem_listed he; simp [go_sem, *] at hm; subst hm; exact ⟨fun hs => by have h := hSB _ hs; dsimp only at h; omega, by dsimp only; omega⟩, hw.set (j := 0) (v := .slice (some ⟨w0.heap.size + 1, 0, none⟩) 4 4) (by simp)⟩) (fun w hF => ?_)
 replace hF : PH w0 [(w0.heap.size + 2, .cells #[.slice (some ⟨w0.heap.size + 1, 0, none⟩) 4 4] 55), (w0.heap.size + 1, .cells #[.int .i64 0, .int .i64 0, .int .i64 0, .int .i64 0, .int .i64 0, .int .i64 0, .int .i64 0, .int .i64 0] 58), (w0.heap.size, .cells #[.slice (some ⟨A, ao, none⟩) 4 c] 25)] w := by simpa using hF
 walk_nrm
 refine js rfl (fun w => stepG_region_end) ?_
 refine js rfl (fun w => stepG_seq) ?_
 refine js rfl (fun w => stepG_region) ?_
 simp only [sz, Nat.reduceAdd, Nat.zero_add, List.range, List.range.loop]
 refine zif (v := .pointer (some ⟨w0.heap.size + 3, 0, none⟩)) hF rfl rfl (by k_ne) (.cells #[.int .u64 0, .int .u32 0] 113) (fun w hw hz => ⟨by simp only [List.length_cons, List.length_nil, Nat.reduceAdd, Nat.add_zero, Nat.zero_add] at hz; rw [← hz]; go_simp, listed_nil (by simp [go_sem, *])⟩) (fun w hF => ?_)
 replace hF : PH w0 [(w0.heap.size + 3, .cells #[.int .u64 0, .int .u32 0] 113), (w0.heap.size + 2, .cells #[.slice (some ⟨w0.heap.size + 1, 0, none⟩) 4 4] 55), (w0.heap.size + 1, .cells #[.int .i64 0, .int .i64 0, .int .i64 0, .int .i64 0, .int .i64 0, .int .i64 0, .int .i64 0, .int .i64 0] 58), (w0.heap.size, .cells #[.slice (some ⟨A, ao, none⟩) 4 c] 25)] w := hF
 walk_nrm
 refine js rfl (fun w => stepG_region_end) ?_
 refine js rfl (fun w => stepG_seq) ?_
 refine js rfl (fun w => stepG_seq) ?_
 refine js rfl (fun w => stepG_region) ?_
 simp only [sz, Nat.reduceAdd, Nat.zero_add, List.range, List.range.loop]
 refine Yt hF rfl rfl (by k_ne) (fun w hw => ⟨run_eq_of (fun K hK => by have h0 : w.cell? ⟨w0.heap.size, 0, none⟩ = some (.slice (some ⟨A, ao, none⟩) 4 c) := (hw.cell (b := w0.heap.size) (cs := #[.slice (some ⟨A, ao, none⟩) 4 c]) (t := 25) (by simp) 0).trans rfl; go_simp; exact hK), by have h0 : w.cell? ⟨w0.heap.size, 0, none⟩ = some (.slice (some ⟨A, ao, none⟩) 4 c) := (hw.cell (b := w0.heap.size) (cs := #[.slice (some ⟨A, ao, none⟩) 4 c]) (t := 25) (by simp) 0).trans rfl; intro e he; have hm := mem_listed he; simp [go_sem, *] at hm; subst hm; exact ⟨fun hs => by have h := hSB _ hs; dsimp only at h; omega, by dsimp only; omega⟩⟩) ?_
 walk_nrm
 refine Yt hF rfl rfl (by k_ne) (fun w hw => ⟨run_eq_of (fun K hK => by go_simp; exact hK), by rw [listed_nil (by simp [go_sem, *])]; simp⟩) ?_
 walk_nrm
 refine Yt hF rfl rfl (by k_ne) (fun w hw => ⟨run_eq_of (fun K hK => by go_simp; exact hK), by rw [listed_nil (by simp [go_sem, *])]; simp⟩) ?_
 walk_nrm
 refine js rfl (fun w => stepG_region_end) ?_
 refine js rfl (fun w => stepG_block) ?_
 refine js rfl (fun w => stepG_loop) ?_
 have hh := fun T => next w T hF
 simp only [weB, weT, Tryz.f30] at hh
 exact hh _ rfl rfl rfl rfl rfl rfl
end
end
section
open Go.Conc Go.ConcN Go.ConcR.Gen Go.RowKit Go.Conc.Lib
open Go.ConcR (KK WgAt DC0)
theorem zpx : weE = .seq (.region 10 #[{ dst := some 18, op := .load 55 (.tmp 3), type := 55, pos := "l13_wear.go:34", after := #[], guard := none }, { dst := some 2, op := .assign (.tmp 18), type := 55, pos := "l13_wear.go:34", after := #[{ on := 0, ground := .data }, { on := 0, ground := .phase }], guard := none }] false) .ret := by kernel_rfl
section
variable {Post : Value -> World -> Prop} {SB : Nat -> Prop} {w0 : World} {A ao c : Nat} {f : List Bk} {hs : List (Option Addr × Nat)} {cc : Frame} {cs : List Frame}
theorem we1 {w : World} {s C : Nat} {T : Array Value} (hT : T.size = 19) (t3 : T[3]? = some (.pointer (some ⟨s, 0, none⟩))) (hs : s < w.heap.size) (hn : ¬ SB s) (hc : w.cell? ⟨s, 0, none⟩ = some (.slice (some ⟨C, 0, none⟩) 4 4))
 (next : Fine Tryz.prog Post SB (G (cc.finish (.slice (some ⟨C, 0, none⟩) 4 4)) cs) w) : Fine Tryz.prog Post SB (G ((base 30).at ⟨T, []⟩ (.inRegion opsX [] :: [.code weE])) (cc :: cs)) w := by
 unfold Fine
 have hF := PH.refl w
 refine js rfl (fun w => stepG_region_end) ?_
 rw [zpx]
 refine js rfl (fun w => stepG_seq) ?_
 refine js rfl (fun w => stepG_region) ?_
 simp only [sz, Nat.reduceAdd, Nat.zero_add, List.range, List.range.loop]
 obtain ⟨v0, v1, v2, v3, v4, v5, v6, v7, v8, v9, v10, v11, v12, v13, v14, v15, v16, v17, v18, rfl⟩ := zpo T hT
 simp only [List.getElem?_toArray, List.getElem?_cons_succ, List.getElem?_cons_zero, Option.some.injEq] at t3
 subst t3
 have hc' : ∀ w', PH w [] w' -> w'.cell? ⟨s, 0, none⟩ = some (.slice (some ⟨C, 0, none⟩) 4 4) := fun w' hw => (World.cell?_of_block (a := ⟨s, 0, none⟩) (hw.old s hs)).trans hc
 refine Yt hF rfl rfl (by k_ne) (fun w' hw => ⟨run_eq_of (fun K hK => by have h0 := hc' w' hw; go_simp; exact hK), by have h0 := hc' w' hw; intro e he; have hm := mem_listed he; simp [go_sem, *] at hm; subst hm; exact ⟨hn, hs⟩⟩) ?_
 walk_nrm
 refine Yt hF rfl rfl (by k_ne) (fun w hw => ⟨run_eq_of (fun K hK => by go_simp; exact hK), by rw [listed_nil (by simp [go_sem, *])]; simp⟩) ?_
 walk_nrm
 refine js rfl (fun w => stepG_region_end) ?_
 refine js rfl (fun w => stepG_ret') ?_
 refine zig rfl rfl Tryz.func30 (fun w => ⟨?_, ?_⟩) next
 . simp [results, Tryz.f30, go_sem]
 . rw [show (results Tryz.f30 _).events Tryz.prog w #[] = #[] by simp [results, Tryz.f30, go_sem]]
   rfl
theorem Fine.wearEach (hf : Bks w0 (some ⟨A, ao, none⟩) f hs) (h4 : f.length = 4) (hp4 : ∀ b ∈ f, b.pages.length = 4) (hSB : ∀ b, SB b -> b < w0.heap.size) (hN : ∀ b, fblk (some ⟨A, ao, none⟩) hs b -> ¬ SB b)
 (next : ∀ w', w0.heap.size + 4 ≤ w'.heap.size -> (∀ b, b < w0.heap.size -> w'.heap[b]? = w0.heap[b]?) -> w'.heap[w0.heap.size + 1]? = some (.cells (q8 f).toArray 58) -> w'.os = w0.os -> w'.output = w0.output ->
  Fine Tryz.prog Post (fun b => SB b ∨ b = w0.heap.size + 3) (G (cc.finish (.slice (some ⟨w0.heap.size + 1, 0, none⟩) 4 4)) cs) w') :
 Fine Tryz.prog Post SB (G (Frame.enter Tryz.prog 30 #[.slice (some ⟨A, ao, none⟩) 4 c] .normal) (cc :: cs)) w0 := by
 refine we0 hSB fun w T hF hT t1 t3 t4 t10 t11 => ?_
 have hsz : w.heap.size = w0.heap.size + 4 := hF.size
 obtain ⟨s, es⟩ : ∃ s, w0.heap.size = s := ⟨_, rfl⟩
 have hold : ∀ b, b < s -> w.heap[b]? = w0.heap[b]? := by rw [← es]; exact hF.old
 have hF0 := hF.held (w0.heap.size, .cells #[.slice (some ⟨A, ao, none⟩) 4 c] 25) (by simp)
 have hF1 := hF.held (w0.heap.size + 1, .cells #[.int .i64 0, .int .i64 0, .int .i64 0, .int .i64 0, .int .i64 0, .int .i64 0, .int .i64 0, .int .i64 0] 58) (by simp)
 have hF2 := hF.held (w0.heap.size + 2, .cells #[.slice (some ⟨w0.heap.size + 1, 0, none⟩) 4 4] 55) (by simp)
 have hF3 := hF.held (w0.heap.size + 3, .cells #[.int .u64 0, .int .u32 0] 113) (by simp)
 have hos := hF.os
 have hout := hF.output
 clear hF
 simp only [es] at hF0 hF1 hF2 hF3 hsz t1 t3 t4 hSB next ⊢
 let Φ : Ph := { ty := link.tWg, Wg := s + 3, C := s + 1, n0 := s + 4, ety := 58, sz := 8, h0 := w.heap, SB := SB, nw := 4, res := wres f }
 have kk : Φ.Ok := ⟨by show s + 1 < s + 4; omega, by show s + 3 < s + 4; omega, by show s + 1 ≠ s + 3; omega, fun b hb => by
  have h : b < s := hSB b hb
  refine ⟨?_, ?_, ?_⟩
  . show b < s + 4; omega
  . show b ≠ s + 1; omega
  . show b ≠ s + 3; omega, fun i i' off v v' h1 h2 => (zho h1).symm.trans (zho h2), by show 4 < 1000000; omega⟩
 have blt : ∀ b, fblk (some ⟨A, ao, none⟩) hs b -> b < s := by
  intro b hb
  rw [← es]
  rcases hb with hb | ⟨i, x, hx, hb⟩
  . exact hf.row.lt (by
     intro e
     have hl := Z7 f hs hf.len
     rw [e, h4] at hl
     simp at hl) hb
  . have hi : i < f.length := by rw [← hf.len]; exact (List.getElem?_eq_some_iff.1 hx).1
    obtain ⟨bk, hbk⟩ := zd (l := f) (k := i) hi
    have hl := hp4 bk (List.mem_of_getElem? hbk)
    exact (hf.pg i bk x hbk hx).1.lt (kq (by intro e; rw [e] at hl; simp at hl)) hb
 have hro : ∀ b, fblk (some ⟨A, ao, none⟩) hs b -> Φ.Ro b := fun b hb => by
  have := blt b hb
  refine ⟨?_, ?_, ?_, hN b hb⟩
  . show b < s + 4; omega
  . show b ≠ s + 1; omega
  . show b ≠ s + 3; omega
 have nSB : ∀ b, s ≤ b -> ¬ SB b := fun b hb h => by have := hSB b h; omega
 have oldc : ∀ w', Φ.Old w' -> ∀ b, fblk (some ⟨A, ao, none⟩) hs b -> ∀ j, w'.cell? ⟨b, j, none⟩ = w0.cell? ⟨b, j, none⟩ := fun w' ho b hb j => by
  obtain ⟨h1, h2, h3, _⟩ := hro b hb
  exact World.cell?_of_block (a := ⟨b, j, none⟩) ((ho b h1 h2 h3).trans (hold b (blt b hb)))
 have hwk : ∀ k : Nat, k < 4 -> ∀ I (S : Nat -> Prop) w, S I -> Φ.KB [(I, .cells #[.int .i64 (k : Int)] 3)] w -> Φ.Loc Tryz.prog k 7 S 25 (born Tryz.prog (zfp Φ.Wg s I (s + 2))) w := by
  intro k hk I S w' hI hKB
  obtain ⟨bk, hbk⟩ := zd (l := f) (k := k) (by omega)
  have hl := hp4 bk (List.mem_of_getElem? hbk)
  obtain ⟨x, hx, c1, c2, _, _, hrow, _⟩ := hf.at_ hbk
  have hne : pgs bk.pages ≠ [] := kq (by intro e; rw [e] at hl; simp at hl)
  obtain ⟨pb, po, hxe, hcell⟩ := hrow hne
  obtain ⟨xa, xc⟩ := x
  simp only at hxe
  subst hxe
  rw [hl] at c1
  have bA : fblk (some ⟨A, ao, none⟩) hs A := .inl rfl
  have bP : fblk (some ⟨A, ao, none⟩) hs pb := .inr ⟨k, _, hx, rfl⟩
  refine zpt (Φ := Φ) (F := s) (I := I) (O := s + 2) (A := A) (ao := ao) (k := k) (n := 4) (c := c) (pb := pb) (po := po) (pc := xc) (wn := bk.worn) (ps := bk.pages) ⟨kk, ?_, ?_, hro A bA, hro pb bP, ?_, ?_, ?_, ?_, ?_, hl, hk, by omega, rfl, rfl, zdv hbk⟩ hI hKB
  . exact ⟨by show s < s + 4; omega, by show s ≠ s + 1; omega, by show s ≠ s + 3; omega, nSB s nl⟩
  . exact ⟨by show s + 2 < s + 4; omega, by show s + 2 ≠ s + 1; omega, by show s + 2 ≠ s + 3; omega, nSB _ (by omega)⟩
  . intro w' ho
    have := ho s (by show s < s + 4; omega) (by show s ≠ s + 1; omega) (by show s ≠ s + 3; omega)
    have e : Φ.h0[s]? = some (.cells #[.slice (some ⟨A, ao, none⟩) 4 c] 25) := hF0
    rw [e] at this
    simp [World.cell?, this]
  . intro w' ho
    have := ho (s + 2) (by show s + 2 < s + 4; omega) (by show s + 2 ≠ s + 1; omega) (by show s + 2 ≠ s + 3; omega)
    have e : Φ.h0[s + 2]? = some (.cells #[.slice (some ⟨s + 1, 0, none⟩) 4 4] 55) := hF2
    rw [e] at this
    simp [World.cell?, this, Φ]
  . exact fun w' ho => (oldc w' ho A bA _).trans c1
  . exact fun w' ho => (oldc w' ho A bA _).trans c2
  . exact fun w' ho j v hv => (oldc w' ho pb bP _).trans (hcell j v hv).1
 have hwg : WgAt link.tWg (s + 3) w 0 0 := hF3
 have hpay : Φ.Pay w := ⟨_, hF1, rfl⟩
 refine ku.phase (Φ := Φ) (K := KX Φ (s + 2) (cc :: cs)) (An := AnX Φ (s + 2) (cc :: cs)) kk (fun g w h => AnX.run h) (fun g w h => AnX.round kk rfl h) nl (by show 0 < 4; omega) ?_ hwg hpay (fun b h1 h2 h3 => rfl) (by show s + 4 ≤ w.heap.size; omega) ?_
 . intro T' d'
   exact zck.spawn (zp4 (n := 4) (F := s) kk rfl rfl (by omega) hwk 4 0 rfl T (tp0 w T' d') hT t1 t3 t4 t10 t11 ⟨⟨fun b h1 h2 h3 => rfl, hpay, by show s + 4 ≤ w.heap.size; omega, by simp, by simp⟩, ⟨0, 0, hwg⟩⟩)
 . rintro g' w' ⟨T', hT', t3', m, hm⟩ ⟨ca, hca, hcs⟩ hold' hwg' hn0' hhas hos' hout'
   have hn0 : s + 4 ≤ w'.heap.size := hn0'
   refine ku.goes (R := Φ.R xu) (fun w T d => ⟨fun _ _ => rfl, id, id, id, id⟩) m g' w' (hm w' ⟨⟨hold', ⟨ca, hca, hcs⟩, hn0', by simp, by simp⟩, ⟨0, 0, hwg'⟩⟩) ?_
   have hO := hold' (s + 2) (by show s + 2 < s + 4; omega) (by show s + 2 ≠ s + 1; omega) (by show s + 2 ≠ s + 3; omega)
   have e : Φ.h0[s + 2]? = some (.cells #[.slice (some ⟨s + 1, 0, none⟩) 4 4] 55) := hF2
   rw [e] at hO
   refine we1 (s := s + 2) (C := s + 1) hT' t3' (by omega) (fun h => h.elim (nSB _ (by omega)) (fun h => by have h : s + 2 = s + 3 := h; omega)) (by simp [World.cell?, hO]) ?_
   refine next w' hn0 (fun b hb => ?_) ?_ (hos'.trans hos) (hout'.trans hout)
   . exact (hold' b (by show b < s + 4; omega) (by show b ≠ s + 1; omega) (by show b ≠ s + 3; omega)).trans (hold b hb)
   . show w'.heap[Φ.C]? = _
     have hca' : w'.heap[Φ.C]? = some (.cells ca 58) := hca
     rw [hca']
     have hcs8 : ca.size = 8 := hcs
     have hlen : (q8 f).length = 8 := by
      have := Kh (fun b : Bk => [.int .i64 b.worn, .int .i64 (tornN b.pages : Int)]) 2 (fun _ => rfl) f
      rw [h4] at this
      exact this
     have : ca = (q8 f).toArray := by
      apply Array.ext_getElem?
      intro i
      rcases Nat.lt_or_ge i 8 with hlt | hge
      . obtain ⟨bk, hbk⟩ := zd (l := f) (k := i / 2) (by omega)
        have h1 := hhas (i / 2) (by show i / 2 < 4; omega)
        have e2 : Φ.res (i / 2) = _ := zdv hbk
        unfold Ph.Has at h1
        rw [e2] at h1
        have cellC : ∀ j, w'.cell? ⟨Φ.C, j, none⟩ = ca[j]? := fun j => by simp [World.cell?, hca']
        have g0 := jq (fun b : Bk => [Value.int .i64 b.worn, .int .i64 (tornN b.pages : Int)]) 2 (fun _ => rfl) f (i / 2) (i % 2) bk hbk (by omega)
        rw [show i / 2 * 2 + i % 2 = i by omega] at g0
        show ca[i]? = (q8 f).toArray[i]?
        have gw : (q8 f).toArray[i]? = _ := (List.getElem?_toArray ..).trans g0
        rw [gw]
        rcases (by omega : i % 2 = 0 ∨ i % 2 = 1) with h | h
        . have := h1 (i / 2 * 2, .int .i64 bk.worn) (List.mem_cons_self ..)
          simp only [cellC] at this
          rw [show i / 2 * 2 = i by omega] at this
          rw [this, h]; rfl
        . have := h1 (i / 2 * 2 + 1, .int .i64 (tornN bk.pages : Int)) (List.mem_cons_of_mem _ (List.mem_cons_self ..))
          simp only [cellC] at this
          rw [show i / 2 * 2 + 1 = i by omega] at this
          rw [this, h]; rfl
      . rw [Array.getElem?_eq_none (by omega), Array.getElem?_eq_none (by simp; omega)]
     rw [this]
end
end
section
open Go.Conc
def zqk : List Nat := [5, 6, 7, 8, 11, 12, 13, 14, 15, 17, 18, 19, 20, 21, 22, 23, 24, 25, 26, 27, 28, 29, 31, 32, 33, 34, 35, 36, 37, 38, 39, 40, 41, 42, 43, 44, 45, 46, 47, 48, 49, 50, 51, 52, 56, 58, 59, 60, 61, 62, 63, 64, 65, 66, 67, 68, 69, 70, 71, 72, 73, 74, 75, 76, 77, 78, 79, 80, 81, 82, 83, 84, 85, 86, 87, 106, 107, 108, 109, 110, 111, 112, 113, 114, 115, 116, 117, 118, 119, 120, 121, 122, 123, 124, 125, 126, 132, 133, 134, 135]
def zlq (f : Nat) : Bool := zqk.contains f
def good (d : Option (Nat × Nat × Nat)) : Cfg := ⟨zlq, d⟩
def zmr (f : Nat) : Prop := ∃ fn c, Tryz.prog.funcs[f]? = some fn ∧ fn.body = some c ∧ xn Tryz.prog zlq c = true ∧ (fn.name == "runtime.NumGoroutine") = false
theorem mkG {f : Nat} {fn : Func} {c : Go.Code} (h : Tryz.prog.funcs[f]? = some fn) (hb : fn.body = some c := by rfl) (hc : xn Tryz.prog zlq c = true := by kernel_rfl) (hn : (fn.name == "runtime.NumGoroutine") = false := by decide) : zmr f := ⟨fn, c, h, hb, hc, hn⟩
def za4 : List Nat -> Prop
 | [] => True
 | f :: l => zmr f ∧ za4 l
theorem za4.mem : ∀ {l : List Nat} {f : Nat}, za4 l -> f ∈ l -> zmr f
 | [], _, _, h => by cases h
 | g :: l, f, h, hm => (List.mem_cons.1 hm).elim (fun e => e ▸ h.1) fun hm => za4.mem h.2 hm
theorem zil (d : Option (Nat × Nat × Nat)) : kx Tryz.prog (good d) := by
 refine ⟨fun f hf => za4.mem (l := zqk) ⟨mkG Tryz.func5, mkG Tryz.func6, mkG Tryz.func7, mkG Tryz.func8, mkG Tryz.func11, mkG Tryz.func12, mkG Tryz.func13, mkG Tryz.func14, mkG Tryz.func15, mkG Tryz.func17, mkG Tryz.func18, mkG Tryz.func19, mkG Tryz.func20, mkG Tryz.func21, mkG Tryz.func22, mkG Tryz.func23, mkG Tryz.func24, mkG Tryz.func25, mkG Tryz.func26, mkG Tryz.func27, mkG Tryz.func28, mkG Tryz.func29, mkG Tryz.func31, mkG Tryz.func32, mkG Tryz.func33, mkG Tryz.func34, mkG Tryz.func35, mkG Tryz.func36, mkG Tryz.func37, mkG Tryz.func38, mkG Tryz.func39, mkG Tryz.func40, mkG Tryz.func41, mkG Tryz.func42, mkG Tryz.func43, mkG Tryz.func44, mkG Tryz.func45, mkG Tryz.func46, mkG Tryz.func47, mkG Tryz.func48, mkG Tryz.func49, mkG Tryz.func50, mkG Tryz.func51, mkG Tryz.func52, mkG Tryz.func56, mkG Tryz.func58, mkG Tryz.func59, mkG Tryz.func60, mkG Tryz.func61, mkG Tryz.func62, mkG Tryz.func63, mkG Tryz.func64, mkG Tryz.func65, mkG Tryz.func66, mkG Tryz.func67, mkG Tryz.func68, mkG Tryz.func69, mkG Tryz.func70, mkG Tryz.func71, mkG Tryz.func72, mkG Tryz.func73, mkG Tryz.func74, mkG Tryz.func75, mkG Tryz.func76, mkG Tryz.func77, mkG Tryz.func78, mkG Tryz.func79, mkG Tryz.func80, mkG Tryz.func81, mkG Tryz.func82, mkG Tryz.func83, mkG Tryz.func84, mkG Tryz.func85, mkG Tryz.func86, mkG Tryz.func87, mkG Tryz.func106, mkG Tryz.func107, mkG Tryz.func108, mkG Tryz.func109, mkG Tryz.func110, mkG Tryz.func111, mkG Tryz.func112, mkG Tryz.func113, mkG Tryz.func114, mkG Tryz.func115, mkG Tryz.func116, mkG Tryz.func117, mkG Tryz.func118, mkG Tryz.func119, mkG Tryz.func120, mkG Tryz.func121, mkG Tryz.func122, mkG Tryz.func123, mkG Tryz.func124, mkG Tryz.func125, mkG Tryz.func126, mkG Tryz.func132, mkG Tryz.func133, mkG Tryz.func134, mkG Tryz.func135, trivial⟩ (by simpa [good, zlq] using hf), fun t i v ht hi hv => ?_⟩
 have h : (Tryz.prog.types.toList.all fun i => match i.zero with | some v => zhy v | none => true) = true := by kernel_rfl
 rw [List.all_eq_true] at h
 have := h i (Array.mem_toList_iff.2 (Array.mem_of_getElem? hi))
 rw [hv] at this
 exact this
end
section
open Go.Conc Go.ConcN Go.ConcR.Gen Go.RowKit
structure Bel (w w' : World) : Prop where
 os : w'.os = w.os
 output : w'.output = w.output
 size : w.heap.size ≤ w'.heap.size
 block : ∀ b, b < w.heap.size -> w'.heap[b]? = w.heap[b]?
theorem Bel.refl (w : World) : Bel w w := ⟨rfl, rfl, Nat.le_refl _, fun _ _ => rfl⟩
theorem Bel.trans {a b c : World} (h : Bel a b) (k : Bel b c) : Bel a c := ⟨k.os.trans h.os, k.output.trans h.output, Nat.le_trans h.size k.size, fun x hx => (k.block x (Nat.lt_of_lt_of_le hx h.size)).trans (h.block x hx)⟩
theorem Bel.of_below {B : Nat} {w w1 w' : World} (h : Below B w w') (hB : w1.heap.size ≤ B) (hh : w.heap = w1.heap) (ho : w.os = w1.os) (hp : w.output = w1.output) (hs : w1.heap.size ≤ w'.heap.size) : Bel w1 w' := ⟨h.os.trans ho, h.output.trans hp, hs, fun b hb => by rw [← hh]; exact h.block b (by omega)⟩
theorem Bel.more {a w w' : World} (h : Bel a w) (hs : w'.heap.size = w.heap.size) (ho : w'.os = w.os) (hp : w'.output = w.output) (hb : ∀ b, b < a.heap.size -> w'.heap[b]? = w.heap[b]?) : Bel a w' := ⟨ho.trans h.os, hp.trans h.output, by rw [hs]; exact h.size, fun b x => (hb b x).trans (h.block b x)⟩
theorem Bel.bl {w w' : World} (h : Bel w w') : Below w.heap.size w { w' with tape := w.tape } := ⟨h.os, rfl, h.output, h.size, h.block⟩
theorem Bel.cell {w w' : World} (h : Bel w w') {b : Nat} (hb : b < w.heap.size) (j : Nat) : w'.cell? ⟨b, j, none⟩ = w.cell? ⟨b, j, none⟩ := World.cell?_of_block (a := ⟨b, j, none⟩) (h.block b hb)
theorem Fl.bel {w w' : World} {A : Option Addr} {f : List Bk} (h : Fl w A f) (k : Bel w w') : Fl w' A f := by
 obtain ⟨hs, h⟩ := h
 exact ⟨hs, h.keep fun b _ hl => k.block b hl⟩
theorem Bel.tp (w : World) (T : Nat -> Question -> Nat) (d : Nat) : Bel w (tp0 w T d) := ⟨rfl, rfl, Nat.le_refl _, fun _ _ => rfl⟩
structure Co (G : Cfg) (SB A : Nat -> Prop) (w0 w : World) : Prop where
 hin : HIn Tryz.prog G A (cutW G w)
 away : Away SB A (cutW G w)
 bel : Bel w0 w
section
variable {G : Cfg} {SB A : Nat -> Prop} {w0 w : World} {Post : Value -> World -> Prop}
theorem Co.tp (h : Co G SB A w0 w) (T : Nat -> Question -> Nat) (d : Nat) : Co G SB A w0 (tp0 w T d) := by
 have e : cutW G (tp0 w T d) = tp0 (cutW G w) T d := zmi G w T d
 exact ⟨by rw [e]; exact h.hin.tp T d, by rw [e]; exact h.away, ⟨h.bel.os, h.bel.output, h.bel.size, h.bel.block⟩⟩
theorem Co.dead (h : Co G SB A w0 w) : ∀ c l hi, G.dead = some (c, l, hi) -> c < w.heap.size := zfl h.hin.there
theorem Co.lt (h : Co G SB A w0 w) {b : Nat} (hb : A b) : b < w.heap.size := by have := h.hin.lt hb; rwa [zw] at this
theorem Co.shun (h : Co G SB A w0 w) {b : Nat} (hb : SB b) : b < w.heap.size := by have := (h.away b hb).2; rwa [zw] at this
theorem Co.push (h : Co G SB A w0 w) (o : Obj) : Co G SB A w0 { w with heap := w.heap.push o } := by
 have e := zij h.dead o
 have hs : (cutW G { w with heap := w.heap.push o }).heap.size = (cutW G w).heap.size + 1 := by rw [zw, zw]; simp
 refine ⟨⟨fun r hr => ?_, fun c l hi x => by rw [hs]; have := h.hin.there c l hi x; omega⟩, fun b hb => ⟨(h.away b hb).1, by rw [hs]; have := (h.away b hb).2; omega⟩, h.bel.trans ⟨rfl, rfl, by simp, fun b hb => getElem?_push_old _ _ hb⟩⟩
 obtain ⟨x, hx, hin⟩ := h.hin.obj r hr
 refine ⟨x, ?_, hin⟩
 rw [e]
 show ((cutW G w).heap.push o)[r]? = _
 rw [getElem?_push_old _ _ (h.hin.lt hr)]
 exact hx
theorem Co.setCell (h : Co G SB A w0 w) {b : Nat} (j : Nat) (v : Value) (hA : ¬ A b) (hb : w0.heap.size ≤ b) : Co G SB A w0 (w.setCell ⟨b, j, none⟩ v) := by
 have e := K5 (G := G) (w := w) ⟨b, j, none⟩ v
 have hs : (cutW G (w.setCell ⟨b, j, none⟩ v)).heap.size = (cutW G w).heap.size := by rw [zw, zw]; simp [World.setCell]
 refine ⟨⟨fun r hr => ?_, fun c l hi x => by rw [hs]; exact h.hin.there c l hi x⟩, fun b hb => ⟨(h.away b hb).1, by rw [hs]; exact (h.away b hb).2⟩, h.bel.more (by simp [World.setCell]) rfl rfl fun x hx => ?_⟩
 . obtain ⟨x, hx, hin⟩ := h.hin.obj r hr
   refine ⟨x, ?_, hin⟩
   rw [e]
   exact (Below.heap_setCell _ ⟨b, j, none⟩ v r (fun x => hA (by rw [show b = r from x.symm]; exact hr))).trans hx
 . exact Below.heap_setCell _ ⟨b, j, none⟩ v x (by show x ≠ b; omega)
theorem Co.keep {w' : World} (h : Co G SB A w0 w) (k : Bel w w') : Co G SB A w0 w' := by
 have hs : (cutW G w).heap.size ≤ (cutW G w').heap.size := by rw [zw, zw]; exact k.size
 refine ⟨⟨fun r hr => ?_, fun c l hi x => Nat.lt_of_lt_of_le (h.hin.there c l hi x) hs⟩, fun b hb => ⟨(h.away b hb).1, Nat.lt_of_lt_of_le (h.away b hb).2 hs⟩, h.bel.trans k⟩
 obtain ⟨x, hx, hin⟩ := h.hin.obj r hr
 refine ⟨x, ?_, hin⟩
 rw [← hx]
 have hr' := h.lt hr
 unfold cutW
 split
 . show (w'.heap.modify _ _)[r]? = (w.heap.modify _ _)[r]?
   simp only [Array.getElem?_modify, k.block r hr']
 . exact k.block r hr'
theorem Bel.cut {w' : World} (k : Bel w w') : Bel (cutW G w) (cutW G w') := by
 refine ⟨by rw [zcd, zcd, k.os], by rw [qk, qk, k.output], by rw [zw, zw]; exact k.size, fun b hb => ?_⟩
 rw [zw] at hb
 unfold cutW
 split
 . show (w'.heap.modify _ _)[b]? = (w.heap.modify _ _)[b]?
   simp only [Array.getElem?_modify, k.block b hb]
 . exact k.block b hb
theorem Bel.uncut {w' : World} (k : Bel (cutW G w) (cutW G w')) (ht : Tail G w w') : Bel w w' := by
 refine ⟨by have := k.os; rwa [zcd, zcd] at this, by have := k.output; rwa [qk, qk] at this, by have := k.size; rwa [zw, zw] at this, fun b hb => ht.same (k.block b (by rw [zw]; exact hb))⟩
end
section
variable {SB A : Nat -> Prop} {w0 w : World} {Post : Value -> World -> Prop}
variable {g g' : Goroutine} {b : Frame} {a : Act} {k : List Item} {cs : List Frame} {ops : Array Oper} {j : Nat} {rest : List Nat} {o : Oper} {v : Value} {P : Program} {F F' : World -> Prop}
theorem Fine.tp (h : Fine P Post SB g w) (T : Nat -> Question -> Nat) (d : Nat) : Fine P Post SB g (tp0 w T d) := fun T' d' => h T' d'
theorem z7 (hr : g.status = .running) (h : ∀ w, stepG P true g w = .go g' w #[]) (next : Fine P Post SB g' w) : Fine P Post SB g w := js hr h next
theorem znz (hT : ∀ w T d, F w -> F (tp0 w T d)) (hF : F w) (ho : ops[j]? = some o) (hw : Region.wanted o (yielded ops a.tmps) = true) (hk : b.kind ≠ .early)
 (hrun : ∀ w, F w -> (execOp a.eval o).run P w = .ok (.value v) w ∧ ∀ e ∈ listed P b.fn a o w, EvF SB w.heap.size e)
 (next : Fine P Post SB (G (b.at (a.put o.dst v) (.inRegion ops rest :: k)) cs) w) : Fine P Post SB (G (b.at a (.inRegion ops (j :: rest) :: k)) cs) w :=
 Fine.step rfl fun T d => ⟨_, tp0 w T d, _, stepG_value ho hw hk (hrun _ (hT w T d hF)).1, Nat.le_refl _, (hrun _ (hT w T d hF)).2, next.tp T d⟩
theorem X1 {f : FuncId} {fn : Func} {c : Code} {args : Array Operand} {ats : Array TypeId} (ho : ops[j]? = some o) (hw : Region.wanted o (yielded ops a.tmps) = true) (hk : b.kind ≠ .early) (hop : o.op = .call { callee := .value (.func f), args, argTypes := ats })
 (hf : P.funcs[f]? = some fn) (hname : (fn.name == "runtime.NumGoroutine") = false) (hb : fn.body = some c)
 (next : Fine P Post SB (G (Frame.enter P f (args.map a.eval) .normal) (b.at a (.inRegion ops (j :: rest) :: k) :: cs)) w) : Fine P Post SB (G (b.at a (.inRegion ops (j :: rest) :: k)) cs) w :=
 z7 rfl (fun w => by
  obtain ⟨g', w', es, e, rfl, rfl, rfl⟩ := goes_elim (goes_call (P := P) (main := true) (cs := cs) (k := k) (b := b) (a := a) (w := w) (rest := rest) (K := fun g' w' es => g' = G (Frame.enter P f (args.map a.eval) .normal) (b.at a (.inRegion ops (j :: rest) :: k) :: cs) ∧ w' = w ∧ es = #[]) ho hw hk hop hf hname hb ⟨by rw [enter_at _ hf hb], rfl, rfl⟩)
  exact e) next
theorem zdp {c : Frame} {todo : List Item} {fn : Func} (hn : b.kind = .normal) (hd : a.defers = []) (hf : P.funcs[b.fn]? = some fn)
 (hrun : ∀ w, (results fn a.tmps).run P w = .ok v w ∧ seen P b.fn ((results fn a.tmps).events P w #[]) = #[])
 (next : Fine P Post SB (G (c.finish v) cs) w) : Fine P Post SB (G { b.at a todo with mode := .returning } (c :: cs)) w := zig hn hd hf hrun next
theorem Co.call {Gd : Option (Nat × Nat × Nat)} {f : FuncId} {args : Array Value} {R : Value -> World -> Prop} {c : Frame} {rest : List Frame} (co : Co (good Gd) SB A w0 w) (hR : ∀ v w T d, R v (tp0 w T d) -> R v w) (hf : zlq f = true) (ha : ∀ v ∈ args, VIn (good Gd) A v)
 (hc : ∀ T d, Calls Tryz.prog f args (tp0 (cutW (good Gd) w) T d) fun e w' => ∃ v, e = .returned v ∧ R v w' ∧ Below (cutW (good Gd) w).heap.size (tp0 (cutW (good Gd) w) T d) w')
 (next : ∀ A' v w', (∀ b, A b -> A' b) -> Co (good Gd) SB A' w0 w' -> Bel w w' -> VIn (good Gd) A' v -> R v (cutW (good Gd) w') -> Fine Tryz.prog Post SB (G (c.finish v) rest) w') : Fine Tryz.prog Post SB (G (Frame.enter Tryz.prog f args .normal) (c :: rest)) w := by
 refine Fine.call (P := Tryz.prog) (G := good Gd) (A := A) (wR := w) (zil Gd) (Q := fun v w' => R v w' ∧ Bel (cutW (good Gd) w) w') hf ha co.hin co.away (fun v w T d h => ⟨hR v w T d h.1, ⟨h.2.os, h.2.output, h.2.size, h.2.block⟩⟩) (fun T d => (hc T d).mono fun e w' ⟨v, h1, h2, h3⟩ => ⟨v, h1, h2, ⟨h3.os, h3.output, h3.size, h3.block⟩⟩) ?_
 intro A' v w' ht hk hh hv hq
 have hb := Bel.uncut hq.2 ht
 exact next A' v w' hk.grow ⟨hh, co.away.kept hk, co.bel.trans hb⟩ hb hv hq.1
theorem zl8 {Gc : Cfg} {ad : Option Addr} {f : List Bk} {hs : List (Option Addr × Nat)} {n c : Nat} (hin : HIn Tryz.prog Gc A w) (hv : VIn Gc A (.slice ad n c)) (hf : Bks w ad f hs) (hne : f ≠ []) (hp : ∀ b ∈ f, b.pages ≠ []) : ∀ b, fblk ad hs b -> A b := by
 obtain ⟨bk, off, rfl⟩ := hf.addr hne
 have hA : Ina Gc A ⟨bk, off, none⟩ := by cases hv; assumption
 rintro b (hb | ⟨i, x, hx, hb⟩)
 . rw [← zg.1 hb]; exact hA.blk
 . have hi : i < f.length := by rw [← hf.len]; exact (List.getElem?_eq_some_iff.1 hx).1
   obtain ⟨b', hb'⟩ := zd hi
   obtain ⟨x', hx', c1, _⟩ := hf.at_ hb'
   rw [hx] at hx'; cases hx'
   have hv1 := K6 hin (a := ⟨bk, off + i * 2, none⟩) ⟨hA.blk, Nat.le_trans hA.low (Nat.le_add_right _ _)⟩ c1
   obtain ⟨xa, xc⟩ := x
   simp only at hb hv1
   cases xa with
   | none => cases hb
   | some ad => cases hv1; rename_i h; cases hb; exact h.blk
theorem Co.wearEach {Gd : Option (Nat × Nat × Nat)} {ad : Option Addr} {f : List Bk} {c : Nat} {cc : Frame} {rest : List Frame} (co : Co (good Gd) SB A w0 w) (hv : VIn (good Gd) A (.slice ad 4 c)) (hf : Fl (cutW (good Gd) w) ad f) (h4 : f.length = 4) (hp4 : ∀ b ∈ f, b.pages.length = 4)
 (next : ∀ w' C W, Co (good Gd) (fun b => SB b ∨ b = W) (fun b => A b ∨ b = C) w0 w' -> Bel w w' -> w0.heap.size ≤ C -> w'.heap[C]? = some (.cells (q8 f).toArray 58) ->
  Fine Tryz.prog Post (fun b => SB b ∨ b = W) (G (cc.finish (.slice (some ⟨C, 0, none⟩) 4 4)) rest) w') :
 Fine Tryz.prog Post SB (G (Frame.enter Tryz.prog 30 #[.slice ad 4 c] .normal) (cc :: rest)) w := by
 obtain ⟨hs, hf⟩ := hf
 have hne : f ≠ [] := by rintro rfl; simp at h4
 have hpn : ∀ b ∈ f, b.pages ≠ [] := fun b hb e => by have := hp4 b hb; rw [e] at this; simp at this
 have hin := zl8 co.hin hv hf hne hpn
 obtain ⟨bk, off, rfl⟩ := hf.addr hne
 have hfR : Bks w (some ⟨bk, off, none⟩) f hs := ⟨hf.len, fun hn => let ⟨b, o, e, hc⟩ := hf.row hn; ⟨b, o, e, fun j u hj => ⟨Zi (hc j u hj).1, by rw [← ql (G := good Gd)]; exact (hc j u hj).2⟩⟩,
  fun i b x hb hx => ⟨fun hn => let ⟨b', o, e, hc⟩ := (hf.pg i b x hb hx).1 hn; ⟨b', o, e, fun j u hj => ⟨Zi (hc j u hj).1, by rw [← ql (G := good Gd)]; exact (hc j u hj).2⟩⟩, (hf.pg i b x hb hx).2⟩⟩
 refine Fine.wearEach hfR h4 hp4 (fun b hb => co.shun hb) (fun b hb h => (co.away b h).1 (hin b hb)) fun w' h1 h2 h3 h5 h6 => ?_
 have hb : Bel w w' := ⟨h5, h6, by omega, h2⟩
 have co' := co.keep hb
 have hdC : (cutW (good Gd) w').heap[w.heap.size + 1]? = some (.cells (q8 f).toArray 58) := by
  rw [Zw]
  . exact h3
  . intro c l hi e x
    have := co.dead c l hi e
    omega
 refine next w' (w.heap.size + 1) (w.heap.size + 3) ⟨⟨fun r hr => ?_, co'.hin.there⟩, fun b hb' => ?_, co'.bel⟩ hb (by have := co.bel.size; omega) h3
 . rcases hr with hr | rfl
   . obtain ⟨x, hx, hxin⟩ := co'.hin.obj r hr
     exact ⟨x, hx, hxin.mono fun _ z => .inl z⟩
   . refine ⟨_, hdC, .all fun v hv => ?_⟩
     simp only [q8, List.mem_toArray, List.mem_flatMap, List.mem_cons, List.not_mem_nil, or_false] at hv
     obtain ⟨b, _, rfl | rfl⟩ := hv <;> exact .int _ _
 . rw [zw]
   rcases hb' with hb' | rfl
   . have := co'.away b hb'
     have h9 := co.shun hb'
     rw [zw] at this
     exact ⟨fun x => x.elim this.1 (fun e => by omega), this.2⟩
   . exact ⟨fun x => x.elim (fun x => by have := co.lt x; omega) (fun e => by omega), by omega⟩
end
end
section
open Go.Conc Go.ConcN Go.ConcR.Gen Go.RowKit
section
variable {P : Program} {Post : Value -> World -> Prop} {SB : Nat -> Prop} {b : Frame} {k : List Item} {cs : List Frame} {w : World} {ops : Array Oper} {F : World -> Prop} {id : Nat}
theorem f_op {a : Act} {j : Nat} {rest : List Nat} {o : Oper} {v : Value} (ho : ops[j]? = some o) (hw : Region.wanted o (yielded ops a.tmps) = true) (hk : b.kind ≠ .early)
 (hrun : ∀ w, (execOp a.eval o).run P w = .ok (.value v) w ∧ listed P b.fn a o w = #[])
 (next : Fine P Post SB (G (b.at (a.put o.dst v) (.inRegion ops rest :: k)) cs) w) : Fine P Post SB (G (b.at a (.inRegion ops (j :: rest) :: k)) cs) w :=
 znz (F := fun _ => True) (fun _ _ _ _ => trivial) trivial ho hw hk (fun w _ => ⟨(hrun w).1, by rw [(hrun w).2]; simp⟩) next
theorem fo {a : Act} {j : Nat} {rest : List Nat} {o : Oper} {v : Value} (next : Fine P Post SB (G (b.at (a.put o.dst v) (.inRegion ops rest :: k)) cs) w) (ho : ops[j]? = some o := by rfl) (hw : Region.wanted o (yielded ops a.tmps) = true := by rfl) (hk : b.kind ≠ .early := by k_ne)
 (hrun : ∀ w, (execOp a.eval o).run P w = .ok (.value v) w ∧ listed P b.fn a o w = #[] := by exact fun w => ⟨run_eq_of (fun K hK => by go_simp; exact hK), listed_nil (by simp [go_sem, *])⟩) : Fine P Post SB (G (b.at a (.inRegion ops (j :: rest) :: k)) cs) w :=
 f_op ho hw hk hrun next
end
end
section
open Go.Conc Go.ConcN Go.ConcR.Gen Go.RowKit
section
variable {SB A : Nat -> Prop} {w0 w : World} {Post : Value -> World -> Prop}
def qz (Q : Act -> World -> Prop) (w : World) (e : Exit) (a : Act) (w' : World) : Prop := e = .normal ∧ a.defers = [] ∧ Q a w' ∧ Bel w w'
theorem qz.mk' {Q : Act -> World -> Prop} {a0 w' : World} {a : Act} (hd : a.defers = []) (h : Q a w') (hb : Bel a0 w') : qz Q a0 .normal a w' := ⟨rfl, hd, h, hb⟩
theorem Co.wp {Gd : Option (Nat × Nat × Nat)} {bf : Frame} {a : Act} {c : Go.Code} {k : List Item} {cs : List Frame} (Q : Act -> World -> Prop) (co : Co (good Gd) SB A w0 w) (hbk : bf.kind = .normal) (hc : xn Tryz.prog (good Gd) c = true) (hk : ∀ id, exitTo id k = none)
 (ht : ∀ v ∈ a.tmps, VIn (good Gd) A v) (hd : a.defers = []) (hQ : ∀ a w T d, Q a (tp0 w T d) -> Q a w)
 (h : ∀ T d, c.wp Tryz.prog (qz Q (cutW (good Gd) w)) a (tp0 (cutW (good Gd) w) T d))
 (next : ∀ A' a' w', (∀ b, A b -> A' b) -> Co (good Gd) SB A' w0 w' -> Bel w w' -> (∀ v ∈ a'.tmps, VIn (good Gd) A' v) -> Q a' (cutW (good Gd) w') -> Fine Tryz.prog Post SB (G (bf.at a' k) cs) w') : Fine Tryz.prog Post SB (G (bf.at a (.code c :: k)) cs) w := by
 refine Fine.wp (P := Tryz.prog) (G := good Gd) (A := A) (wR := w) (Q := fun e a w' => e = .normal ∧ Q a w' ∧ Bel (cutW (good Gd) w) w') (zil Gd) hbk hc hk ht hd co.hin co.away (fun e a w T d h => ⟨h.1, hQ _ _ _ _ h.2.1, ⟨h.2.2.os, h.2.2.output, h.2.2.size, h.2.2.block⟩⟩) (fun T d => ?_) ?_ ?_
 . refine Go.Code.wp_mono (fun e a' w' h => ?_) (h T d)
   obtain ⟨h1, h2, h3, h4⟩ := h
   exact ⟨.inl h1, h1, h3, h4⟩
 . intro A' a' w' ht hk' hh hv hq hdef
   have hb := Bel.uncut hq.2.2 ht
   exact next A' a' w' hk'.grow ⟨hh, co.away.kept hk', co.bel.trans hb⟩ hb hv hq.2.1
 . intro A' a' w' todo _ _ _ _ hq
   cases hq.1
end
section
variable {SB A : Nat -> Prop} {w0 w : World} {Post : Value -> World -> Prop}
def X8 (Q QR : Act -> World -> Prop) (w : World) (e : Exit) (a : Act) (w' : World) : Prop := ((e = .normal ∧ Q a w') ∨ (e = .ret ∧ QR a w')) ∧ a.defers = [] ∧ Bel w w'
theorem X8.mkN {Q QR : Act -> World -> Prop} {a0 w' : World} {a : Act} (hd : a.defers = []) (h : Q a w') (hb : Bel a0 w') : X8 Q QR a0 .normal a w' := ⟨.inl ⟨rfl, h⟩, hd, hb⟩
theorem X8.mkR {Q QR : Act -> World -> Prop} {a0 w' : World} {a : Act} (hd : a.defers = []) (h : QR a w') (hb : Bel a0 w') : X8 Q QR a0 .ret a w' := ⟨.inr ⟨rfl, h⟩, hd, hb⟩
theorem Co.wpR {Gd : Option (Nat × Nat × Nat)} {bf : Frame} {a : Act} {c : Go.Code} {k : List Item} {cs : List Frame} (Q QR : Act -> World -> Prop) (co : Co (good Gd) SB A w0 w) (hbk : bf.kind = .normal) (hc : xn Tryz.prog (good Gd) c = true) (hk : ∀ id, exitTo id k = none)
 (ht : ∀ v ∈ a.tmps, VIn (good Gd) A v) (hd : a.defers = []) (hQ : ∀ a w T d, Q a (tp0 w T d) -> Q a w) (hQR : ∀ a w T d, QR a (tp0 w T d) -> QR a w)
 (h : ∀ T d, c.wp Tryz.prog (X8 Q QR (cutW (good Gd) w)) a (tp0 (cutW (good Gd) w) T d))
 (next : ∀ A' a' w', (∀ b, A b -> A' b) -> Co (good Gd) SB A' w0 w' -> Bel w w' -> (∀ v ∈ a'.tmps, VIn (good Gd) A' v) -> Q a' (cutW (good Gd) w') -> Fine Tryz.prog Post SB (G (bf.at a' k) cs) w')
 (nextR : ∀ A' a' w' todo, (∀ b, A b -> A' b) -> Co (good Gd) SB A' w0 w' -> Bel w w' -> (∀ v ∈ a'.tmps, VIn (good Gd) A' v) -> QR a' (cutW (good Gd) w') -> Fine Tryz.prog Post SB (G { bf.at a' todo with mode := .returning } cs) w') : Fine Tryz.prog Post SB (G (bf.at a (.code c :: k)) cs) w := by
 refine Fine.wp (P := Tryz.prog) (G := good Gd) (A := A) (wR := w) (Q := fun e a w' => ((e = .normal ∧ Q a w') ∨ (e = .ret ∧ QR a w')) ∧ Bel (cutW (good Gd) w) w') (zil Gd) hbk hc hk ht hd co.hin co.away (fun e a w T d h => ⟨h.1.imp (fun x => ⟨x.1, hQ _ _ _ _ x.2⟩) (fun x => ⟨x.1, hQR _ _ _ _ x.2⟩), ⟨h.2.os, h.2.output, h.2.size, h.2.block⟩⟩) (fun T d => ?_) ?_ ?_
 . refine Go.Code.wp_mono (fun e a' w' h => ?_) (h T d)
   obtain ⟨h1, h3, h4⟩ := h
   exact ⟨h1.imp (·.1) (fun x => ⟨x.1, h3⟩), h1, h4⟩
 . intro A' a' w' ht hk' hh hv hq hdef
   have hb := Bel.uncut hq.2 ht
   rcases hq.1 with ⟨_, h⟩ | ⟨h, _⟩
   . exact next A' a' w' hk'.grow ⟨hh, co.away.kept hk', co.bel.trans hb⟩ hb hv h
   . cases h
 . intro A' a' w' todo ht hk' hh hv hq hdef
   have hb := Bel.uncut hq.2 ht
   rcases hq.1 with ⟨h, _⟩ | ⟨_, h⟩
   . cases h
   . exact nextR A' a' w' todo hk'.grow ⟨hh, co.away.kept hk', co.bel.trans hb⟩ hb hv h
end
theorem Fl.worn {W : World} {g off : Nat} {f : List Bk} (h : Fl W (some ⟨g, off, none⟩) f) {k : Nat} {b : Bk} (hb : f[k]? = some b) : W.cell? ⟨g, off + k * 2 + 1, none⟩ = some (.int .i64 b.worn) := by
 obtain ⟨hs, hf⟩ := h
 obtain ⟨x, _, _, c1, _⟩ := hf.at_ hb
 exact c1
theorem Below.bel {a W w : World} (h0 : Bel a W) (h : Below W.heap.size W w) : Bel a w := h0.trans ⟨h.os, h.output, h.size, h.block⟩
def Ex : Nat -> (List Value -> Prop) -> Prop
 | 0, p => p []
 | n + 1, p => ∃ v, Ex n fun l => p (v :: l)
theorem Ex.of : ∀ {n : Nat} {p : List Value -> Prop} (l : List Value), l.length = n -> p l -> Ex n p
 | 0, _, [], _, h => h
 | 0, _, _ :: _, hl, _ => by simp at hl
 | _ + 1, _, [], hl, _ => by simp at hl
 | _ + 1, _, v :: l, hl, h => ⟨v, Ex.of l (by simpa using hl) h⟩
theorem exT {T : Array Value} {n : Nat} (h : T.size = n) : Ex n fun l => T = l.toArray := Ex.of T.toList (by simpa using h) (by simp)
def AllV (Gc : Cfg) (A : Nat -> Prop) (l : List Value) : Prop := ∀ v ∈ l, VIn Gc A v
theorem AllV.nil {Gc : Cfg} {A : Nat -> Prop} : AllV Gc A [] := fun v hv => (by cases hv)
theorem AllV.cons {Gc : Cfg} {A : Nat -> Prop} {v : Value} {l : List Value} (h : VIn Gc A v) (t : AllV Gc A l) : AllV Gc A (v :: l) := fun x hx => by
 rcases List.mem_cons.1 hx with rfl | hx
 . exact h
 . exact t x hx
theorem AllV.arr {Gc : Cfg} {A : Nat -> Prop} {l : List Value} (h : AllV Gc A l) : ∀ v ∈ l.toArray, VIn Gc A v := fun v hv => h v (List.mem_toArray.1 hv)
theorem VIn.undef {Gc : Cfg} {A : Nat -> Prop} : VIn Gc A Go.undef := .tuple (by simp)
end
section
open Go.RowKit Go.Maps
theorem za9 (p : Pg) (w : World) : Calls Tryz.prog 52 #[.agg #[.int .i64 p.state, .int .i64 p.rc.kind, .int .i64 p.rc.seq, .int .i64 p.rc.addr, .int .i64 p.rc.val]] w fun e w' => e = .returned (.bool (zp p)) ∧ Below w.heap.size w w' := by
 obtain ⟨st, r⟩ := p
 dsimp only
 have hB : Below w.heap.size w (w.alloc (.cells #[.int .i64 st, .int .i64 r.kind, .int .i64 r.seq, .int .i64 r.addr, .int .i64 r.val] 76)) := (Below.refl _ _).alloc nl _
 by_cases h1 : st = 1
 . subst h1
   have hq : Hid (zp ⟨1, r⟩ = xk r) := rfl
   go_enter Tryz.func52, Tryz.ntmps52
   go_wp2_with (go_at_call 62; refine (Ke r _).mono ?_; rintro e w1 ⟨rfl, hb⟩)
   go_ret
   exact ⟨zk hq.out.symm, hB.trans (hb.mono (by simp))⟩
 clear hB
 obtain ⟨k, s, a, v⟩ := r
 dsimp only
 by_cases h0 : st = 0
 . subst h0
   have hq : Hid (zp ⟨0, ⟨k, s, a, v⟩⟩ = decide ((⟨k, s, a, v⟩ : Rc) = rc0)) := rfl
   go_enter Tryz.func52, Tryz.ntmps52
   go_wp2
   all_goals (go_ret; exact ⟨zk (by rw [hq.out]; simp [rc0, *]), (Below.refl _ _).alloc nl _⟩)
 by_cases h2 : st = 2
 . subst h2
   have hq : Hid (zp ⟨2, ⟨k, s, a, v⟩⟩ = decide ((⟨k, s, a, v⟩ : Rc) = rc0)) := rfl
   go_enter Tryz.func52, Tryz.ntmps52
   go_wp2
   all_goals (go_ret; exact ⟨zk (by rw [hq.out]; simp [rc0, *]), (Below.refl _ _).alloc nl _⟩)
 have hk : Hid (zp ⟨st, ⟨k, s, a, v⟩⟩ = false) := by unfold Hid zp; simp [h1, h2, h0]
 go_enter Tryz.func52, Tryz.ntmps52
 go_wp2
 go_ret
 exact ⟨zk hk.out.symm, (Below.refl _ _).alloc nl _⟩

theorem zad (b : Bk) (A : Option Addr) (c : Nat) (w : World) (hR : Row w A (pgs b.pages)) : Calls Tryz.prog 51 #[.agg #[.slice A b.pages.length c, .int .i64 b.worn]] w fun e w' => e = .returned (.bool (zy b)) ∧ Below w.heap.size w w' := by
 obtain ⟨ps, worn⟩ := b
 dsimp only at *
 have hB : Below w.heap.size w (w.alloc (.cells #[.slice A ps.length c, .int .i64 worn] 99)) := (Below.refl _ _).alloc nl _
 by_cases hn4 : ps.length = 4
 . obtain ⟨bk, off, rfl⟩ := hR.addr (kq (by rintro rfl; simp at hn4))
   have HN := Lib.hid hn4
   rw [hn4] at hB ⊢
   clear hn4
   by_cases h0 : worn < 0
   . have hfin : Hid (zy ⟨ps, worn⟩ = false) := by unfold Hid zy; simp; omega
     go_enter Tryz.func51, Tryz.ntmps51
     go_wp2
     go_ret
     exact ⟨zk hfin.out.symm, hB⟩
   by_cases h1 : 200 < worn
   . have hfin : Hid (zy ⟨ps, worn⟩ = false) := by unfold Hid zy; simp; omega
     go_enter Tryz.func51, Tryz.ntmps51
     go_wp2
     go_ret
     exact ⟨zk hfin.out.symm, hB⟩
   have hfin : Hid (zy ⟨ps, worn⟩ = qo false ps) := by unfold Hid zy; simp [HN.out, show 0 ≤ worn by omega, show worn ≤ 200 by omega]
   go_enter Tryz.func51, Tryz.ntmps51
   go_wp2
   go_loopw [3, 23] (fun fr i wr => ∃ (k : Nat) (bb : Bool), k ≤ 4 ∧ i = .int .i64 k ∧ fr = .bool bb ∧ Below w.heap.size w wr ∧ Hid (qo false ps = qo bb (ps.drop k))) (fun _ i _ => 4 - (intOf i).toNat)
   case atStart => exact ⟨0, false, by omega, rfl, rfl, hB, rfl⟩
   case round =>
    obtain ⟨k, bb, hk, rfl, rfl, hb, hg⟩ := hrel
    by_cases hlt : k < 4
    . obtain ⟨p, hp⟩ := zd (l := ps) (k := k) (by have := HN.out; omega)
      have hd := Lib.hid (zu hp)
      obtain ⟨c0, c1, c2, c3, c4⟩ := (hR.below hb nl).pg hp
      clear hp hB
      obtain ⟨st, rc⟩ := p
      dsimp only at *
      go_wp2
      . go_ret
        exact ⟨zk (by rw [hfin.out, hg.out, hd.out]; simp [qo, *]), hb.alloc hb.size _⟩
      all_goals
       go_roundw
       case rel => exact ⟨k + 1, _, by omega, by go_num, rfl, hb.alloc hb.size _, by rw [Hid, hg.out, hd.out]; simp [qo, *]⟩
       case measure => simp [intOf]; omega
    . go_wp2
      go_ret
      obtain rfl : k = 4 := by omega
      exact ⟨zk (by rw [hfin.out, hg.out, List.drop_of_length_le (by have := HN.out; omega)]; rfl), hb⟩
 . have hfin : Hid (zy ⟨ps, worn⟩ = false) := by unfold Hid zy; simp; omega
   go_enter Tryz.func51, Tryz.ntmps51
   go_wp2
   go_ret
   exact ⟨zk hfin.out.symm, hB⟩

theorem zmt (w : World) : (zeroValue 3).run Tryz.prog w = .ok (.int .i64 0) w := by kernel_rfl
def cnt (seen : List Int) (k : Int) : Int := seen.count k
theorem zml {seen : List Int} {k : Int} : 0 < cnt seen k ↔ k ∈ seen := by unfold cnt; rw [← List.count_pos_iff]; omega
theorem xe (f : List Bk) (A : Option Addr) (c : Nat) (w : World) (hF : Fl w A f) : Calls Tryz.prog 29 #[.slice A f.length c] w fun e w' => e = .returned (.bool (zc f)) ∧ Below w.heap.size w w' := by
 by_cases hn4 : f.length = 4
 . obtain ⟨hs, hF⟩ := hF
   obtain ⟨bk, off, rfl⟩ := hF.addr (by rintro rfl; simp at hn4)
   have hfin : Hid (zc f = kl [] f) := by unfold Hid zc; simp [hn4]
   have HN := Lib.hid hn4
   rw [hn4]
   clear hn4
   have hmm := @run_makeMap Tryz.prog
   go_enter Tryz.func29, Tryz.ntmps29
   go_wp2
   go_loopw [14] (fun i wr => ∃ (k : Nat) (seen : List Int), k ≤ 4 ∧ i = .int .i64 k ∧ Below w.heap.size w wr ∧ IMap Tryz.prog 3 3 wr w.heap.size (4 * k) (cnt seen) ∧ (∀ x, cnt seen x ≤ 4 * k) ∧ Hid (zc f = kl seen (f.drop k))) (fun i _ => 4 - (intOf i).toNat)
   case atStart => exact ⟨0, [], by omega, rfl, (Below.refl _ _).alloc nl _, (IMap.made _ _ _ _), by simp [cnt], hfin.out⟩
   case round =>
    obtain ⟨k, seen, hk, rfl, hb, hM, hcn, hg⟩ := hrel
    by_cases hlt : k < 4
    . obtain ⟨B, hB⟩ := zd (l := f) (k := k) (by have := HN.out; omega)
      have hd := Lib.hid (zu hB)
      obtain ⟨⟨Ap, cp⟩, _, c0, c1, _, _, hR, hlc⟩ := hF.at_ hB
      have hbk : bk < w.heap.size := ze c0
      replace c0 := (hb.cell (p := ⟨bk, off + k * 2, none⟩) hbk).trans c0
      replace c1 := (hb.cell (p := ⟨bk, off + k * 2 + 1, none⟩) hbk).trans c1
      clear hB hbk
      obtain ⟨Ps, wn⟩ := B
      dsimp only at *
      go_wp2_with fail
      refine (zad ⟨Ps, wn⟩ Ap cp _ ((hR.below hb nl).alloc _)).mono ?_
      rintro e w1 ⟨rfl, hb1⟩
      have hx0 : w1.cell? ⟨wr.heap.size, 0, none⟩ = some (.slice Ap Ps.length cp) := (hb1.cell (by simp)).trans (by simp)
      have hB1 : Below w.heap.size w w1 := (hb.alloc hb.size _).trans (hb1.mono (by have := hb.size; simp; omega))
      have hM1 : IMap Tryz.prog 3 3 w1 w.heap.size (4 * k) (cnt seen) := (hM.alloc _).below hb1 (by have := hM.lt; simp; omega)
      clear hb1 c0 c1 hM hb
      by_cases hbs : zy ⟨Ps, wn⟩ = true
      . have hl4 : Ps.length = 4 := by unfold zy at hbs; simp at hbs; exact hbs.1
        have hstep : Hid (zc f = jh seen (fun s => kl s (f.drop (k + 1))) Ps) := by rw [Hid, hg.out, hd.out, kl, hbs]; rfl
        obtain ⟨pb, po, rfl⟩ := hR.addr (kq (by rintro rfl; simp at hl4))
        have HL := Lib.hid hl4
        rw [hl4] at hx0
        clear hl4 hlc hg hd
        go_wp2
        go_loopw [24] (fun i wr => ∃ (j : Nat) (seen : List Int), j ≤ 4 ∧ i = .int .i64 j ∧ Below w.heap.size w wr ∧ IMap Tryz.prog 3 3 wr w.heap.size (4 * k + j) (cnt seen) ∧ (∀ x, cnt seen x ≤ 4 * k + j) ∧ Hid (zc f = jh seen (fun s => kl s (f.drop (k + 1))) (Ps.drop j))) (fun i _ => 4 - (intOf i).toNat)
        case atStart => exact ⟨0, seen, by omega, rfl, hB1, hM1, by intro x; have := hcn x; omega, hstep.out⟩
        case round =>
         clear hM1 hcn seen hB1 hx0 hstep
         obtain ⟨j, seen, hj, rfl, hb, hM, hcn, hg⟩ := hrel
         by_cases hltj : j < 4
         . obtain ⟨p, hp⟩ := zd (l := Ps) (k := j) (by have := HL.out; omega)
           have hd := Lib.hid (zu hp)
           obtain ⟨c0, c1, c2, c3, c4⟩ := (hR.below hb nl).pg hp
           clear hp
           obtain ⟨st, ⟨kd, sq, ad, vl⟩⟩ := p
           dsimp only at *
           go_wp2_with fail
           refine (za9 ⟨st, ⟨kd, sq, ad, vl⟩⟩ _).mono ?_
           rintro e w2 ⟨rfl, hb2⟩
           have hB2 : Below w.heap.size w w2 := (hb.alloc hb.size _).trans (hb2.mono (by have := hb.size; simp; omega))
           have hM2 : IMap Tryz.prog 3 3 w2 w.heap.size (4 * k + j) (cnt seen) := (hM.alloc _).below hb2 (by have := hM.lt; simp; omega)
           have x0 : w2.cell? ⟨wr.heap.size, 0, none⟩ = some (.int .i64 st) := (hb2.cell (by simp)).trans (by simp)
           have x2 : w2.cell? ⟨wr.heap.size, 2, none⟩ = some (.int .i64 sq) := (hb2.cell (by simp)).trans (by simp)
           clear hb2 hM hb c0 c1 c2 c3 c4
           by_cases hpo : zp ⟨st, ⟨kd, sq, ad, vl⟩⟩ = true
           . by_cases hst : st = 1
             . subst hst
               have hsq : 1 ≤ sq ∧ sq ≤ 600 := by unfold zp xk at hpo; simp at hpo; exact ⟨hpo.2.1, hpo.2.2.1⟩
               obtain ⟨hs1, hs2⟩ := hsq
               have hwf : (Lit.int .i64 sq).wf = true := WalkArith.wf_i64 (by omega)
               have hlook := hM2.look Tryz.underlying101 Tryz.underlying3 Tryz.underlying3 zmt hwf
               have hcs := hcn sq
               by_cases hin : sq ∈ seen
               . have hpos : 0 < cnt seen sq := zml.2 hin
                 have hstep : Hid (zc f = false) := by rw [Hid, hg.out, hd.out, jh, hpo, if_neg (by simp), if_neg (by simp), if_pos hin]
                 clear hcn hg hd
                 go_wp2
                 go_ret
                 exact ⟨zk hstep.out.symm, hB2⟩
               . have hz : cnt seen sq = 0 := by have := mt zml.1 hin; have : 0 ≤ cnt seen sq := by unfold cnt; omega
                                                 omega
                 rw [hz] at hlook
                 have hstep : Hid (zc f = jh (sq :: seen) (fun s => kl s (f.drop (k + 1))) (Ps.drop (j + 1))) := by rw [Hid, hg.out, hd.out, jh, hpo, if_neg (by simp), if_neg (by simp), if_neg hin]
                 obtain ⟨w3, hput, hM3, hg3⟩ := hM2.put (k := sq) (v := 1) Tryz.underlying101 Tryz.underlying3 Tryz.underlying3 (by unfold maxLen; omega) hwf (by decide)
                 have hB3 : Below w.heap.size w w3 := hB2.grown hg3 hB2.size (by intro g e; cases e; omega)
                 have hM4 : IMap Tryz.prog 3 3 w3 w.heap.size (4 * k + (j + 1)) (cnt (sq :: seen)) := by
                  have e : (fun x => if x = sq then (1 : Int) else cnt seen x) = cnt (sq :: seen) := by
                   funext x
                   unfold cnt at hz ⊢
                   rw [List.count_cons]
                   by_cases hx : x = sq
                   . subst hx; simp; omega
                   . rw [if_neg hx, if_neg (by simpa using fun h => hx h.symm)]; simp
                  rw [← e]; exact hM3
                 have hcn' : ∀ x, cnt (sq :: seen) x ≤ 4 * k + (j + 1) := by
                  intro x; have := hcn x; unfold cnt at *; rw [List.count_cons]; split <;> omega
                 have HC := Lib.hid hcn'
                 clear hcn hcn' hg hd hM3 hg3 hM2 hB2 hz hin
                 go_wp2
                 go_roundw
                 case rel => exact ⟨j + 1, _, by omega, by go_num, hB3, hM4, HC.out, hstep⟩
                 case measure => simp [intOf]; omega
             . have hstep : Hid (zc f = jh seen (fun s => kl s (f.drop (k + 1))) (Ps.drop (j + 1))) := by rw [Hid, hg.out, hd.out, jh, hpo, if_neg (by simp), if_pos (by simpa using hst)]
               have HC := Lib.hid hcn
               clear hg hd hcn
               go_wp2
               go_roundw
               case rel => exact ⟨j + 1, seen, by omega, by go_num, hB2, hM2.mono (by omega), by intro x; have := HC.out x; omega, hstep⟩
               case measure => simp [intOf]; omega
           . go_wp2
             go_ret
             exact ⟨zk (by rw [hg.out, hd.out, jh, if_pos (by simpa using hpo)]), hB2⟩
         . obtain rfl : j = 4 := by omega
           have hstep : Hid (zc f = kl seen (f.drop (k + 1))) := by rw [Hid, hg.out, show Ps.drop 4 = [] from List.drop_of_length_le (by have := HL.out; omega)]; rfl
           have HC := Lib.hid hcn
           clear hcn hg
           go_wp2
           go_roundw
           case rel => exact ⟨k + 1, seen, by omega, by go_num, hb, hM.mono (by omega), by intro x; have := HC.out x; omega, hstep⟩
           case measure => simp [intOf]; omega
      . go_wp2
        go_ret
        exact ⟨zk (by rw [hg.out, hd.out, kl, if_pos (by simpa using hbs)]), hB1⟩
    . go_wp2
      go_ret
      obtain rfl : k = 4 := by omega
      exact ⟨zk (by rw [hg.out, List.drop_of_length_le (by have := HN.out; omega)]; rfl), hb⟩
 . have hfin : Hid (zc f = false) := by unfold Hid zc; simp; omega
   go_enter Tryz.func29, Tryz.ntmps29
   go_wp2
   go_ret
   exact ⟨zk hfin.out.symm, Below.refl _ _⟩
end
section
open Go.Conc Go.ConcN Go.ConcR.Gen Go.RowKit
def wLo (f : List Bk) : Int := f.foldl (fun a b => if b.worn < a then b.worn else a) 200
def wHi (f : List Bk) : Int := f.foldl (fun a b => if a < b.worn then b.worn else a) 0
def Js (f : List Bk) : Int := f.foldl (fun a b => a + (tornN b.pages : Int)) 0
theorem xj {f : List Bk} (h : zc f = true) : f.length = 4 ∧ ∀ b ∈ f, b.pages.length = 4 ∧ 0 ≤ b.worn ∧ b.worn ≤ 200 := ⟨zf h, zm h⟩
theorem zhq (ps : List Pg) : tornN ps ≤ ps.length := List.countP_le_length
theorem X2 (P : Program) (w : World) (es : Array Event) (ts : Array TypeId) (t : TypeId) (k k' : IntKind) (x y : Int) : (Builtin.min_ ts t #[.int k x, .int k' y]).events P w es = es := by simp [Builtin.min_, Builtin.min2]
theorem X3 (P : Program) (w : World) (es : Array Event) (ts : Array TypeId) (t : TypeId) (k k' : IntKind) (x y : Int) : (Builtin.max_ ts t #[.int k x, .int k' y]).events P w es = es := by simp [Builtin.max_, Builtin.max2]
section
variable {f : List Bk} {k : Nat}
theorem zhb : ∀ (l : List Bk) (a : Int), 0 ≤ a -> (∀ b ∈ l, 0 ≤ b.worn) -> 0 ≤ l.foldl (fun a b => if b.worn < a then b.worn else a) a ∧ l.foldl (fun a b => if b.worn < a then b.worn else a) a ≤ a
 | [], a, h, _ => ⟨h, Int.le_refl _⟩
 | b :: l, a, h, hb => by
   rw [List.foldl_cons]
   have h0 := hb b (by simp)
   split
   . have := zhb l b.worn h0 (fun x hx => hb x (by simp [hx])); omega
   . exact zhb l a h (fun x hx => hb x (by simp [hx]))
theorem zhc : ∀ (l : List Bk) (a : Int), 0 ≤ a -> a ≤ 200 -> (∀ b ∈ l, b.worn ≤ 200) -> 0 ≤ l.foldl (fun a b => if a < b.worn then b.worn else a) a ∧ l.foldl (fun a b => if a < b.worn then b.worn else a) a ≤ 200
 | [], a, h, h2, _ => ⟨h, h2⟩
 | b :: l, a, h, h2, hb => by
   rw [List.foldl_cons]
   have h0 := hb b (by simp)
   split
   . exact zhc l b.worn (by omega) h0 (fun x hx => hb x (by simp [hx]))
   . exact zhc l a h h2 (fun x hx => hb x (by simp [hx]))
theorem zid (g : Bk -> Int) (m : Int) : ∀ (l : List Bk) (a : Int), (∀ b ∈ l, 0 ≤ g b ∧ g b ≤ m) -> a ≤ l.foldl (fun a b => a + g b) a ∧ l.foldl (fun a b => a + g b) a ≤ a + m * l.length
 | [], a, _ => by simp
 | b :: l, a, hb => by
   rw [List.foldl_cons]
   have h0 := hb b (by simp)
   have := zid g m l (a + g b) (fun x hx => hb x (by simp [hx]))
   simp only [List.length_cons]
   have e : m * ((l.length + 1 : Nat) : Int) = m * (l.length : Int) + m := by rw [Int.natCast_add, Int.mul_add]; simp
   rw [e]
   omega
theorem zpz (h : zc f = true) : 0 ≤ wLo f ∧ wLo f ≤ 200 := zhb f 200 (by omega) fun b hb => ((xj h).2 b hb).2.1
theorem zp0 (h : zc f = true) : 0 ≤ wHi f ∧ wHi f ≤ 200 := zhc f 0 (by omega) (by omega) fun b hb => ((xj h).2 b hb).2.2
theorem zm3 (h : zc f = true) : (f.take k).length ≤ 4 := by rw [List.length_take, (xj h).1]; omega
theorem zf8 (h : zc f = true) : 0 ≤ Js (f.take k) ∧ Js (f.take k) ≤ 16 := by
 have := zid (fun b => (tornN b.pages : Int)) 4 (f.take k) 0 fun b hb => by
  have h1 := zhq b.pages
  have h2 := ((xj h).2 b (List.mem_of_mem_take hb)).1
  omega
 have := zm3 (k := k) h
 unfold Js
 omega
end
structure Wk (Gd : Option (Nat × Nat × Nat)) (SB A : Nat -> Prop) (w0 w1 : World) (C : Nat) (f : List Bk) (w : World) : Prop where
 co : Co (good Gd) SB A w0 w
 bel : Bel w1 w
 cells : w.heap[C]? = some (.cells (q8 f).toArray 58)
 inA : A C
section
variable {Gd : Option (Nat × Nat × Nat)} {SB A : Nat -> Prop} {w0 w1 w : World} {C : Nat} {f : List Bk} {Post : Value -> World -> Prop} {cc : Frame} {rest : List Frame} {V : Nat} {cs : Array Value}
theorem Wk.tp (w : World) (T : Nat -> Question -> Nat) (d : Nat) (h : Wk Gd SB A w0 w1 C f w) : Wk Gd SB A w0 w1 C f (tp0 w T d) := ⟨h.co.tp T d, ⟨h.bel.os, h.bel.output, h.bel.size, h.bel.block⟩, h.cells, h.inA⟩
theorem Wk.nsb (h : Wk Gd SB A w0 w1 C f w) : ¬ SB C := fun x => (h.co.away C x).1 h.inA
theorem Wk.lt (h : Wk Gd SB A w0 w1 C f w) : C < w.heap.size := h.co.lt h.inA
theorem Wk.cell (h : Wk Gd SB A w0 w1 C f w) {k : Nat} {b : Bk} (hb : f[k]? = some b) : w.cell? ⟨C, k * 2, none⟩ = some (.int .i64 b.worn) ∧ w.cell? ⟨C, k * 2 + 1, none⟩ = some (.int .i64 (tornN b.pages : Int)) := by
 have g := fun j hj => jq (fun b : Bk => [Value.int .i64 b.worn, .int .i64 (tornN b.pages : Int)]) 2 (fun _ => rfl) f k j b hb hj
 have g0 := g 0 (by omega)
 have g1 := g 1 (by omega)
 constructor
 . simp only [World.cell?, h.cells, q8]; simpa using g0
 . simp only [World.cell?, h.cells, q8]; simpa using g1
theorem Wk.push (h : Wk Gd SB A w0 w1 C f w) (o : Obj) : Wk Gd SB A w0 w1 C f { w with heap := w.heap.push o } :=
 ⟨h.co.push o, h.bel.trans ⟨rfl, rfl, by simp, fun b hb => getElem?_push_old _ _ hb⟩, (getElem?_push_old _ _ h.lt).trans h.cells, h.inA⟩
structure Nw (Gd : Option (Nat × Nat × Nat)) (SB A : Nat -> Prop) (w0 w1 : World) (C : Nat) (f : List Bk) (V : Nat) (cs : Array Value) (w : World) : Prop where
 wk : Wk Gd SB A w0 w1 C f w
 var : w.heap[V]? = some (.cells cs 58)
 lt : V < w.heap.size
 non : ¬ A V
 ge0 : w0.heap.size ≤ V
 ge1 : w1.heap.size ≤ V
 nsb : ¬ SB V
theorem Nw.tp (w : World) (T : Nat -> Question -> Nat) (d : Nat) (h : Nw Gd SB A w0 w1 C f V cs w) : Nw Gd SB A w0 w1 C f V cs (tp0 w T d) := ⟨h.wk.tp _ T d, h.var, h.lt, h.non, h.ge0, h.ge1, h.nsb⟩
theorem Nw.cell (h : Nw Gd SB A w0 w1 C f V cs w) (j : Nat) : w.cell? ⟨V, j, none⟩ = cs[j]? := by simp [World.cell?, h.var]
theorem Nw.thaw (h : Nw Gd SB A w0 w1 C f V cs w) (j : Nat) : w.frozen? ⟨V, j, none⟩ = false := by simp [World.frozen?, h.var]
theorem Nw.set (h : Nw Gd SB A w0 w1 C f V cs w) (j : Nat) (v : Value) : Nw Gd SB A w0 w1 C f V (cs.setIfInBounds j v) (w.setCell ⟨V, j, none⟩ v) := by
 have hs : (w.setCell ⟨V, j, none⟩ v).heap.size = w.heap.size := by simp [World.setCell]
 have hC : C ≠ V := fun e => h.non (e ▸ h.wk.inA)
 exact ⟨⟨h.wk.co.setCell j v h.non h.ge0, h.wk.bel.more hs rfl rfl fun b hb => Below.heap_setCell _ ⟨V, j, none⟩ v b (by have := h.ge1; show b ≠ V; omega), (Below.heap_setCell _ ⟨V, j, none⟩ v C hC).trans h.wk.cells, h.wk.inA⟩, yd h.var, by rw [hs]; exact h.lt, h.non, h.ge0, h.ge1, h.nsb⟩
end
end
section
open Go.RowKit Go.Maps
noncomputable def zc3 : Go.Code := match Tryz.f10.body with | some (.seq _ (.seq _ (.seq _ (.seq (.seq _ c) _)))) => c | _ => .skip
def zhz (f : List Bk) (a : Act) (_ : World) : Prop := ∃ T : Array Value, a = ⟨T, []⟩ ∧ T.size = 29 ∧ T[3]? = some (.int .i64 (wLo f)) ∧ T[4]? = some (.int .i64 (wHi f))
theorem zne {W0 W : World} {C : Nat} {f : List Bk} (h0 : Bel W0 W) (hok : zc f = true) (hc : ∀ (k : Nat) (b : Bk), f[k]? = some b -> W.cell? ⟨C, k * 2, none⟩ = some (.int .i64 b.worn) ∧ W.cell? ⟨C, k * 2 + 1, none⟩ = some (.int .i64 (tornN b.pages : Int))) (T : Array Value) (hT : T.size = 29) (t3 : T[3]? = some (.int .i64 200)) (t4 : T[4]? = some (.int .i64 0)) (to : T[11]? = some (.slice (some ⟨C, 0, none⟩) 4 4)) (tl : T[12]? = some (.int .i64 4)) (tk : T[13]? = some (.int .i64 0)) :
 zc3.wp Tryz.prog (qz (zhz f) W0) ⟨T, []⟩ W := by
 have h4 := (xj hok).1
 simp only [zc3, Tryz.f10]
 replace hT := exT hT
 iterate 29 (obtain ⟨_, hT⟩ := hT)
 dsimp only [Ex] at hT
 subst hT
 simp only [List.getElem?_toArray, List.getElem?_cons_succ, List.getElem?_cons_zero, Option.some.injEq] at t3 t4 to tl tk
 subst t3 t4 to tl tk
 replace hc := Lib.hid hc
 go_wp2
 go_loopw [3, 4, 13] (fun a3 a4 i wr => ∃ k : Nat, k ≤ 4 ∧ i = .int .i64 k ∧ a3 = .int .i64 (wLo (f.take k)) ∧ a4 = .int .i64 (wHi (f.take k)) ∧ Below W.heap.size W wr) (fun _ _ i _ => 4 - (intOf i).toNat)
 case atStart => exact ⟨0, by omega, rfl, rfl, rfl, Below.refl _ _⟩
 case round =>
  obtain ⟨k, hk, rfl, rfl, rfl, hB⟩ := hrel
  by_cases hlt : k < 4
  . obtain ⟨b, hb⟩ := zd (l := f) (k := k) (by omega)
    have hbl := ((xj hok).2 b (List.mem_of_getElem? hb)).1
    have hbw := ((xj hok).2 b (List.mem_of_getElem? hb)).2
    obtain ⟨c0, c1⟩ := hc.out k b hb
    replace c0 := (hB.cell (p := ⟨C, k * 2, none⟩) (ze c0)).trans c0
    replace c1 := (hB.cell (p := ⟨C, k * 2 + 1, none⟩) (ze c1)).trans c1
    have hkl : (k : Int) < 4 := by omega
    have hk1 : IntKind.i64.wrap ((k : Int) + 1) = (k : Int) + 1 := IntWalk.i64_in _ (by omega)
    have htk : f.take (k + 1) = f.take k ++ [b] := by rw [List.take_add_one, hb]; rfl
    skip
    have E3 := Lib.hid (show wLo (f.take (k + 1)) = if b.worn < wLo (f.take k) then b.worn else wLo (f.take k) by rw [htk]; unfold wLo; rw [List.foldl_append]; rfl)
    have E4 := Lib.hid (show wHi (f.take (k + 1)) = if wHi (f.take k) < b.worn then b.worn else wHi (f.take k) by rw [htk]; unfold wHi; rw [List.foldl_append]; rfl)
    clear htk hb h4
    by_cases h1 : b.worn < wLo (f.take k)
    . replace E3 := Lib.hid (E3.out.trans (if_pos h1))
      by_cases h2 : wHi (f.take k) < b.worn
      . replace E4 := Lib.hid (E4.out.trans (if_pos h2))
        go_wp2
        go_roundw
        (case rel => exact ⟨k + 1, by omega, by go_num, by rw [E3.out], by rw [E4.out], bw⟩)
        (case measure => simp [intOf]; omega)
      . replace E4 := Lib.hid (E4.out.trans (if_neg h2))
        go_wp2
        go_roundw
        (case rel => exact ⟨k + 1, by omega, by go_num, by rw [E3.out], by rw [E4.out], bw⟩)
        (case measure => simp [intOf]; omega)
    . replace E3 := Lib.hid (E3.out.trans (if_neg h1))
      by_cases h2 : wHi (f.take k) < b.worn
      . replace E4 := Lib.hid (E4.out.trans (if_pos h2))
        go_wp2
        go_roundw
        (case rel => exact ⟨k + 1, by omega, by go_num, by rw [E3.out], by rw [E4.out], bw⟩)
        (case measure => simp [intOf]; omega)
      . replace E4 := Lib.hid (E4.out.trans (if_neg h2))
        go_wp2
        go_roundw
        (case rel => exact ⟨k + 1, by omega, by go_num, by rw [E3.out], by rw [E4.out], bw⟩)
        (case measure => simp [intOf]; omega)
  . obtain rfl : k = 4 := by omega
    rw [List.take_of_length_le (show f.length ≤ 4 by omega)]
    go_wp2
    exact qz.mk' rfl ⟨_, rfl, rfl, rfl, rfl⟩ (Below.bel h0 hB)
noncomputable def zkz : Go.Code := match Tryz.f9.body with | some (.seq _ (.seq _ (.seq _ (.seq (.seq _ c) _)))) => c | _ => .skip
def zoi (f : List Bk) (a : Act) (_ : World) : Prop := ∃ T : Array Value, a = ⟨T, []⟩ ∧ T.size = 22 ∧ T[3]? = some (.int .i64 (Js f))
theorem zqa {W0 W : World} {C : Nat} {f : List Bk} (h0 : Bel W0 W) (hok : zc f = true) (hc : ∀ (k : Nat) (b : Bk), f[k]? = some b -> W.cell? ⟨C, k * 2, none⟩ = some (.int .i64 b.worn) ∧ W.cell? ⟨C, k * 2 + 1, none⟩ = some (.int .i64 (tornN b.pages : Int))) (T : Array Value) (hT : T.size = 22) (t3 : T[3]? = some (.int .i64 0)) (to : T[10]? = some (.slice (some ⟨C, 0, none⟩) 4 4)) (tl : T[11]? = some (.int .i64 4)) (tk : T[12]? = some (.int .i64 0)) :
 zkz.wp Tryz.prog (qz (zoi f) W0) ⟨T, []⟩ W := by
 have h4 := (xj hok).1
 simp only [zkz, Tryz.f9]
 replace hT := exT hT
 iterate 22 (obtain ⟨_, hT⟩ := hT)
 dsimp only [Ex] at hT
 subst hT
 simp only [List.getElem?_toArray, List.getElem?_cons_succ, List.getElem?_cons_zero, Option.some.injEq] at t3 to tl tk
 subst t3 to tl tk
 replace hc := Lib.hid hc
 go_wp2
 go_loopw [3, 12] (fun a3 i wr => ∃ k : Nat, k ≤ 4 ∧ i = .int .i64 k ∧ a3 = .int .i64 (Js (f.take k)) ∧ Below W.heap.size W wr) (fun _ i _ => 4 - (intOf i).toNat)
 case atStart => exact ⟨0, by omega, rfl, rfl, Below.refl _ _⟩
 case round =>
  obtain ⟨k, hk, rfl, rfl, hB⟩ := hrel
  by_cases hlt : k < 4
  . obtain ⟨b, hb⟩ := zd (l := f) (k := k) (by omega)
    have hbl := ((xj hok).2 b (List.mem_of_getElem? hb)).1
    have hbw := ((xj hok).2 b (List.mem_of_getElem? hb)).2
    obtain ⟨c0, c1⟩ := hc.out k b hb
    replace c0 := (hB.cell (p := ⟨C, k * 2, none⟩) (ze c0)).trans c0
    replace c1 := (hB.cell (p := ⟨C, k * 2 + 1, none⟩) (ze c1)).trans c1
    have hkl : (k : Int) < 4 := by omega
    have hk1 : IntKind.i64.wrap ((k : Int) + 1) = (k : Int) + 1 := IntWalk.i64_in _ (by omega)
    have htk : f.take (k + 1) = f.take k ++ [b] := by rw [List.take_add_one, hb]; rfl
    have hx3 : IntKind.i64.wrap (Js (f.take k) + (tornN b.pages : Int)) = Js (f.take k) + (tornN b.pages : Int) := by have := zf8 hok (k := k); have := zhq b.pages; rw [IntKind.wrap_i64]; omega
    have E3 := Lib.hid (show Js (f.take (k + 1)) = Js (f.take k) + (tornN b.pages : Int) by rw [htk]; unfold Js; rw [List.foldl_append]; rfl)
    clear htk hb h4
    go_wp2
    go_roundw
    (case rel => exact ⟨k + 1, by omega, by go_num, by rw [E3.out], bw⟩)
    (case measure => simp [intOf]; omega)
  . obtain rfl : k = 4 := by omega
    rw [List.take_of_length_le (show f.length ≤ 4 by omega)]
    go_wp2
    exact qz.mk' rfl ⟨_, rfl, rfl, rfl⟩ (Below.bel h0 hB)
end
section
open Go.Conc Go.ConcN Go.ConcR.Gen Go.RowKit
section
variable {SB A : Nat -> Prop} {w0 w : World} {Post : Value -> World -> Prop}
theorem Co.weC {Gd : Option (Nat × Nat × Nat)} {ad : Option Addr} {f : List Bk} {c : Nat} {cc : Frame} {rest : List Frame} (co : Co (good Gd) SB A w0 w) (hv : VIn (good Gd) A (.slice ad 4 c)) (hf : Fl (cutW (good Gd) w) ad f) (h4 : f.length = 4) (hp4 : ∀ b ∈ f, b.pages.length = 4)
 (next : ∀ w' C W, w.heap.size ≤ C -> Co (good Gd) (fun b => SB b ∨ b = W) (fun b => A b ∨ b = C) w0 w' -> Bel w w' -> w'.heap[C]? = some (.cells (q8 f).toArray 58) ->
  Fine Tryz.prog Post (fun b => SB b ∨ b = W) (G (cc.finish (.slice (some ⟨C, 0, none⟩) 4 4)) rest) w') :
 Fine Tryz.prog Post SB (G (Frame.enter Tryz.prog 30 #[.slice ad 4 c] .normal) (cc :: rest)) w := by
 obtain ⟨hs, hf⟩ := hf
 have hne : f ≠ [] := by rintro rfl; simp at h4
 have hpn : ∀ b ∈ f, b.pages ≠ [] := fun b hb e => by have := hp4 b hb; rw [e] at this; simp at this
 have hin := zl8 co.hin hv hf hne hpn
 obtain ⟨bk, off, rfl⟩ := hf.addr hne
 have hfR : Bks w (some ⟨bk, off, none⟩) f hs := ⟨hf.len, fun hn => let ⟨b, o, e, hc⟩ := hf.row hn; ⟨b, o, e, fun j u hj => ⟨Zi (hc j u hj).1, by rw [← ql (G := good Gd)]; exact (hc j u hj).2⟩⟩,
  fun i b x hb hx => ⟨fun hn => let ⟨b', o, e, hc⟩ := (hf.pg i b x hb hx).1 hn; ⟨b', o, e, fun j u hj => ⟨Zi (hc j u hj).1, by rw [← ql (G := good Gd)]; exact (hc j u hj).2⟩⟩, (hf.pg i b x hb hx).2⟩⟩
 refine Fine.wearEach hfR h4 hp4 (fun b hb => co.shun hb) (fun b hb h => (co.away b h).1 (hin b hb)) fun w' h1 h2 h3 h5 h6 => ?_
 have hb : Bel w w' := ⟨h5, h6, by omega, h2⟩
 have co' := co.keep hb
 have hdC : (cutW (good Gd) w').heap[w.heap.size + 1]? = some (.cells (q8 f).toArray 58) := by
  rw [Zw]
  . exact h3
  . intro c l hi e x
    have := co.dead c l hi e
    omega
 refine next w' (w.heap.size + 1) (w.heap.size + 3) (by omega) ⟨⟨fun r hr => ?_, co'.hin.there⟩, fun b hb' => ?_, co'.bel⟩ hb h3
 . rcases hr with hr | rfl
   . obtain ⟨x, hx, hxin⟩ := co'.hin.obj r hr
     exact ⟨x, hx, hxin.mono fun _ z => .inl z⟩
   . refine ⟨_, hdC, .all fun v hv => ?_⟩
     simp only [q8, List.mem_toArray, List.mem_flatMap, List.mem_cons, List.not_mem_nil, or_false] at hv
     obtain ⟨b, _, rfl | rfl⟩ := hv <;> exact .int _ _
 . rw [zw]
   rcases hb' with hb' | rfl
   . have := co'.away b hb'
     have h9 := co.shun hb'
     rw [zw] at this
     exact ⟨fun x => x.elim this.1 (fun e => by omega), this.2⟩
   . exact ⟨fun x => x.elim (fun x => by have := co.lt x; omega) (fun e => by omega), by omega⟩
end
section
variable {Gd : Option (Nat × Nat × Nat)} {SB A : Nat -> Prop} {w0 w1 w : World} {C : Nat} {f : List Bk} {Post : Value -> World -> Prop} {cc : Frame} {rest : List Frame}
theorem Co.wSpread {ad : Option Addr} {c : Nat} (co : Co (good Gd) SB A w0 w) (hv : VIn (good Gd) A (.slice ad f.length c)) (hf : Fl (cutW (good Gd) w) ad f)
 (next : ∀ w' SB' A', (∀ b, A b -> A' b) -> Co (good Gd) SB' A' w0 w' -> Bel w w' -> Fine Tryz.prog Post SB' (G (cc.finish (.int .i64 (if zc f then wHi f - wLo f else -1))) rest) w') :
 Fine Tryz.prog Post SB (G (Frame.enter Tryz.prog 10 #[.slice ad f.length c] .normal) (cc :: rest)) w := by
 rw [enter_at _ Tryz.func10 rfl]
 walk_nrmf Tryz.f10
 refine z7 rfl (fun w => stepG_seq) ?_
 refine z7 rfl (fun w => stepG_region) ?_
 simp only [sz, Nat.reduceAdd, Nat.zero_add, List.range, List.range.loop]
 refine fo ?_
 walk_nrm
 refine z7 rfl (fun w => stepG_region_end) ?_
 refine z7 rfl (fun w => stepG_seq) ?_
 refine z7 rfl (fun w => stepG_seq) ?_
 refine z7 rfl (fun w => stepG_region) ?_
 simp only [sz, Nat.reduceAdd, Nat.zero_add, List.range, List.range.loop]
 refine fo ?_
 walk_nrm
 refine X1 rfl rfl (by k_ne) rfl Tryz.func29 rfl rfl ?_
 walk_nrm
 refine co.call (R := fun v _ => v = .bool (zc f)) (fun _ _ _ _ h => h) (by kernel_rfl) (fun v hx => by simp at hx; subst hx; exact hv) (fun T d => (xe f ad c (tp0 (cutW (good Gd) w) T d) (hf.bel (Bel.tp _ T d))).mono fun e w' ⟨h1, h2⟩ => ⟨_, h1, rfl, h2⟩) ?_
 intro A1 v w1 hA co1 hb1 _ hv1
 subst hv1
 rw [Frame.finish_at]
 walk_nrm
 refine fo ?_
 walk_nrm
 refine z7 rfl (fun w => stepG_region_end) ?_
 cases hok : zc f with
 | false =>
   refine z7 rfl (fun w => stepG_cond (t := true) (by simp [Act.eval, hok])) ?_
   simp only [if_true, Bool.false_eq_true, if_false]
   refine z7 rfl (fun w => stepG_seq) ?_
   refine z7 rfl (fun w => stepG_region) ?_
   simp only [sz, Nat.reduceAdd, Nat.zero_add, List.range, List.range.loop]
   refine fo ?_
   walk_nrm
   refine z7 rfl (fun w => stepG_region_end) ?_
   refine z7 rfl (fun w => stepG_ret') ?_
   refine zdp rfl rfl Tryz.func10 (fun w => ⟨?_, ?_⟩) (v := .int .i64 (-1)) ?_
   . simp [results, Tryz.f10, go_sem]
   . rw [show (results Tryz.f10 _).events Tryz.prog w #[] = #[] by simp [results, Tryz.f10, go_sem]]
     rfl
   . have := next w1 SB A1 hA co1 hb1
     rw [hok] at this
     simpa using this
 | true =>
   have h4 := (xj hok).1
   rw [h4] at hv ⊢
   refine z7 rfl (fun w => stepG_cond (t := false) (by simp [Act.eval, hok])) ?_
   simp only [if_true, Bool.false_eq_true, if_false]
   refine z7 rfl (fun w => stepG_skip) ?_
   refine z7 rfl (fun w => stepG_seq) ?_
   refine z7 rfl (fun w => stepG_region) ?_
   simp only [sz, Nat.reduceAdd, Nat.zero_add, List.range, List.range.loop]
   refine fo ?_
   walk_nrm
   refine fo ?_
   walk_nrm
   refine z7 rfl (fun w => stepG_region_end) ?_
   refine z7 rfl (fun w => stepG_seq) ?_
   refine z7 rfl (fun w => stepG_seq) ?_
   refine z7 rfl (fun w => stepG_region) ?_
   simp only [sz, Nat.reduceAdd, Nat.zero_add, List.range, List.range.loop]
   refine fo ?_
   walk_nrm
   refine X1 rfl rfl (by k_ne) rfl Tryz.func30 rfl rfl ?_
   walk_nrm
   refine Co.weC co1 (hv.mono hA) (hf.bel hb1.cut) h4 (fun b hb => ((xj hok).2 b hb).1) ?_
   intro w2 C W hC co2 hb2 hcell
   rw [Frame.finish_at]
   walk_nrm
   refine fo ?_
   walk_nrm
   refine fo ?_
   walk_nrm
   refine z7 rfl (fun w => stepG_region_end) ?_
   have hz : (good Gd).lo C = 0 := co1.hin.zero C (by rw [zw]; exact hC)
   replace hv := (hv.mono hA).mono (fun b hb => Or.inl (b := b = C) hb)
   have hcl : ∀ (T : Nat -> Question -> Nat) (d : Nat) (k : Nat) (b : Bk), f[k]? = some b -> (tp0 (cutW (good Gd) w2) T d).cell? ⟨C, k * 2, none⟩ = some (.int .i64 b.worn) ∧ (tp0 (cutW (good Gd) w2) T d).cell? ⟨C, k * 2 + 1, none⟩ = some (.int .i64 (tornN b.pages : Int)) := fun T d k b hb => by
    have hcut : (cutW (good Gd) w2).heap[C]? = some (.cells (q8 f).toArray 58) := by
     rw [Zw]
     . exact hcell
     . intro c l hi e x
       have := co1.dead c l hi e
       omega
    have g := fun j hj => jq (fun b : Bk => [Value.int .i64 b.worn, .int .i64 (tornN b.pages : Int)]) 2 (fun _ => rfl) f k j b hb hj
    have g0 := g 0 (by omega)
    have g1 := g 1 (by omega)
    have hh : (tp0 (cutW (good Gd) w2) T d).heap[C]? = some (.cells (q8 f).toArray 58) := hcut
    constructor
    . simp only [World.cell?, hh, q8]; simpa using g0
    . simp only [World.cell?, hh, q8]; simpa using g1
   refine Co.wp (zhz f) co2 rfl (by kernel_rfl) (fun _ => rfl) (AllV.arr ?vin) rfl (fun a w T d h => h) (fun T d' => ?lone) ?_
   case vin => repeat' (first | exact AllV.nil | (refine AllV.cons (by first | exact .int _ _ | exact .bool _ | exact VIn.undef | exact (VIn.slice (a := ⟨C, 0, none⟩) _ _ ⟨.inr rfl, by rw [hz]; exact Nat.zero_le _⟩) | exact hv) ?_))
   case lone =>
    have hp := fun Tx => zne (Bel.tp (cutW (good Gd) w2) T d') hok (hcl T d') Tx
    simp only [zc3, Tryz.f10] at hp
    exact hp _ rfl rfl rfl rfl rfl rfl
   clear co2 hcl
   rintro A3 _ w3 hA3 co3 hb3 _ ⟨T, rfl, hT, t3, t4⟩
   replace hT := exT hT
   iterate 29 (obtain ⟨_, hT⟩ := hT)
   dsimp only [Ex] at hT
   subst hT
   simp only [List.getElem?_toArray, List.getElem?_cons_succ, List.getElem?_cons_zero, Option.some.injEq] at t3 t4
   subst t3 t4
   have hxs : IntKind.i64.wrap (wHi f - wLo f) = wHi f - wLo f := by have := zp0 hok; have := zpz hok; rw [IntKind.wrap_i64]; omega
   refine z7 rfl (fun w => stepG_seq) ?_
   refine z7 rfl (fun w => stepG_region) ?_
   simp only [sz, Nat.reduceAdd, Nat.zero_add, List.range, List.range.loop]
   refine fo ?_
   walk_nrm
   refine fo ?_
   walk_nrm
   refine f_op rfl rfl (by k_ne) (fun w => ⟨run_eq_of (fun K hK => by have hx := hxs; go_simp; exact hK), listed_nil (by have hx := hxs; simp [go_sem, X2, X3, *])⟩) ?_
   walk_nrm
   refine fo ?_
   walk_nrm
   refine z7 rfl (fun w => stepG_region_end) ?_
   refine z7 rfl (fun w => stepG_ret') ?_
   refine zdp rfl rfl Tryz.func10 (fun w => ⟨?_, ?_⟩) (v := .int .i64 (wHi f - wLo f)) ?_
   . simp [results, Tryz.f10, go_sem]
   . rw [show (results Tryz.f10 _).events Tryz.prog w #[] = #[] by simp [results, Tryz.f10, go_sem]]
     rfl
   . have := next w3 _ A3 (fun b hb => hA3 b (.inl (hA b hb))) co3 (hb1.trans (hb2.trans hb3))
     rw [hok] at this
     simpa using this
theorem Co.wLost {ad : Option Addr} {c : Nat} (co : Co (good Gd) SB A w0 w) (hv : VIn (good Gd) A (.slice ad f.length c)) (hf : Fl (cutW (good Gd) w) ad f)
 (next : ∀ w' SB' A', (∀ b, A b -> A' b) -> Co (good Gd) SB' A' w0 w' -> Bel w w' -> Fine Tryz.prog Post SB' (G (cc.finish (.int .i64 (if zc f then Js f else -1))) rest) w') :
 Fine Tryz.prog Post SB (G (Frame.enter Tryz.prog 9 #[.slice ad f.length c] .normal) (cc :: rest)) w := by
 rw [enter_at _ Tryz.func9 rfl]
 walk_nrmf Tryz.f9
 refine z7 rfl (fun w => stepG_seq) ?_
 refine z7 rfl (fun w => stepG_region) ?_
 simp only [sz, Nat.reduceAdd, Nat.zero_add, List.range, List.range.loop]
 refine fo ?_
 walk_nrm
 refine z7 rfl (fun w => stepG_region_end) ?_
 refine z7 rfl (fun w => stepG_seq) ?_
 refine z7 rfl (fun w => stepG_seq) ?_
 refine z7 rfl (fun w => stepG_region) ?_
 simp only [sz, Nat.reduceAdd, Nat.zero_add, List.range, List.range.loop]
 refine fo ?_
 walk_nrm
 refine X1 rfl rfl (by k_ne) rfl Tryz.func29 rfl rfl ?_
 walk_nrm
 refine co.call (R := fun v _ => v = .bool (zc f)) (fun _ _ _ _ h => h) (by kernel_rfl) (fun v hx => by simp at hx; subst hx; exact hv) (fun T d => (xe f ad c (tp0 (cutW (good Gd) w) T d) (hf.bel (Bel.tp _ T d))).mono fun e w' ⟨h1, h2⟩ => ⟨_, h1, rfl, h2⟩) ?_
 intro A1 v w1 hA co1 hb1 _ hv1
 subst hv1
 rw [Frame.finish_at]
 walk_nrm
 refine fo ?_
 walk_nrm
 refine z7 rfl (fun w => stepG_region_end) ?_
 cases hok : zc f with
 | false =>
   refine z7 rfl (fun w => stepG_cond (t := true) (by simp [Act.eval, hok])) ?_
   simp only [if_true, Bool.false_eq_true, if_false]
   refine z7 rfl (fun w => stepG_seq) ?_
   refine z7 rfl (fun w => stepG_region) ?_
   simp only [sz, Nat.reduceAdd, Nat.zero_add, List.range, List.range.loop]
   refine fo ?_
   walk_nrm
   refine z7 rfl (fun w => stepG_region_end) ?_
   refine z7 rfl (fun w => stepG_ret') ?_
   refine zdp rfl rfl Tryz.func9 (fun w => ⟨?_, ?_⟩) (v := .int .i64 (-1)) ?_
   . simp [results, Tryz.f9, go_sem]
   . rw [show (results Tryz.f9 _).events Tryz.prog w #[] = #[] by simp [results, Tryz.f9, go_sem]]
     rfl
   . have := next w1 SB A1 hA co1 hb1
     rw [hok] at this
     simpa using this
 | true =>
   have h4 := (xj hok).1
   rw [h4] at hv ⊢
   refine z7 rfl (fun w => stepG_cond (t := false) (by simp [Act.eval, hok])) ?_
   simp only [if_true, Bool.false_eq_true, if_false]
   refine z7 rfl (fun w => stepG_skip) ?_
   refine z7 rfl (fun w => stepG_seq) ?_
   refine z7 rfl (fun w => stepG_region) ?_
   simp only [sz, Nat.reduceAdd, Nat.zero_add, List.range, List.range.loop]
   refine fo ?_
   walk_nrm
   refine z7 rfl (fun w => stepG_region_end) ?_
   refine z7 rfl (fun w => stepG_seq) ?_
   refine z7 rfl (fun w => stepG_seq) ?_
   refine z7 rfl (fun w => stepG_region) ?_
   simp only [sz, Nat.reduceAdd, Nat.zero_add, List.range, List.range.loop]
   refine fo ?_
   walk_nrm
   refine X1 rfl rfl (by k_ne) rfl Tryz.func30 rfl rfl ?_
   walk_nrm
   refine Co.weC co1 (hv.mono hA) (hf.bel hb1.cut) h4 (fun b hb => ((xj hok).2 b hb).1) ?_
   intro w2 C W hC co2 hb2 hcell
   rw [Frame.finish_at]
   walk_nrm
   refine fo ?_
   walk_nrm
   refine fo ?_
   walk_nrm
   refine z7 rfl (fun w => stepG_region_end) ?_
   have hz : (good Gd).lo C = 0 := co1.hin.zero C (by rw [zw]; exact hC)
   replace hv := (hv.mono hA).mono (fun b hb => Or.inl (b := b = C) hb)
   have hcl : ∀ (T : Nat -> Question -> Nat) (d : Nat) (k : Nat) (b : Bk), f[k]? = some b -> (tp0 (cutW (good Gd) w2) T d).cell? ⟨C, k * 2, none⟩ = some (.int .i64 b.worn) ∧ (tp0 (cutW (good Gd) w2) T d).cell? ⟨C, k * 2 + 1, none⟩ = some (.int .i64 (tornN b.pages : Int)) := fun T d k b hb => by
    have hcut : (cutW (good Gd) w2).heap[C]? = some (.cells (q8 f).toArray 58) := by
     rw [Zw]
     . exact hcell
     . intro c l hi e x
       have := co1.dead c l hi e
       omega
    have g := fun j hj => jq (fun b : Bk => [Value.int .i64 b.worn, .int .i64 (tornN b.pages : Int)]) 2 (fun _ => rfl) f k j b hb hj
    have g0 := g 0 (by omega)
    have g1 := g 1 (by omega)
    have hh : (tp0 (cutW (good Gd) w2) T d).heap[C]? = some (.cells (q8 f).toArray 58) := hcut
    constructor
    . simp only [World.cell?, hh, q8]; simpa using g0
    . simp only [World.cell?, hh, q8]; simpa using g1
   refine Co.wp (zoi f) co2 rfl (by kernel_rfl) (fun _ => rfl) (AllV.arr ?vin) rfl (fun a w T d h => h) (fun T d' => ?lone) ?_
   case vin => repeat' (first | exact AllV.nil | (refine AllV.cons (by first | exact .int _ _ | exact .bool _ | exact VIn.undef | exact (VIn.slice (a := ⟨C, 0, none⟩) _ _ ⟨.inr rfl, by rw [hz]; exact Nat.zero_le _⟩) | exact hv) ?_))
   case lone =>
    have hp := fun Tx => zqa (Bel.tp (cutW (good Gd) w2) T d') hok (hcl T d') Tx
    simp only [zkz, Tryz.f9] at hp
    exact hp _ rfl rfl rfl rfl rfl
   clear co2 hcl
   rintro A3 _ w3 hA3 co3 hb3 _ ⟨T, rfl, hT, t3⟩
   replace hT := exT hT
   iterate 22 (obtain ⟨_, hT⟩ := hT)
   dsimp only [Ex] at hT
   subst hT
   simp only [List.getElem?_toArray, List.getElem?_cons_succ, List.getElem?_cons_zero, Option.some.injEq] at t3
   subst t3
   refine z7 rfl (fun w => stepG_seq) ?_
   refine z7 rfl (fun w => stepG_region) ?_
   simp only [sz, Nat.reduceAdd, Nat.zero_add, List.range, List.range.loop]
   refine fo ?_
   walk_nrm
   refine fo ?_
   walk_nrm
   refine z7 rfl (fun w => stepG_region_end) ?_
   refine z7 rfl (fun w => stepG_ret') ?_
   refine zdp rfl rfl Tryz.func9 (fun w => ⟨?_, ?_⟩) (v := .int .i64 (Js f)) ?_
   . simp [results, Tryz.f9, go_sem]
   . rw [show (results Tryz.f9 _).events Tryz.prog w #[] = #[] by simp [results, Tryz.f9, go_sem]]
     rfl
   . have := next w3 _ A3 (fun b hb => hA3 b (.inl (hA b hb))) co3 (hb1.trans (hb2.trans hb3))
     rw [hok] at this
     simpa using this
end
end
section
open Go.RowKit
def RRow (w : World) (A : Option Addr) (vs : List Value) : Prop := vs ≠ [] -> ∃ b o, A = some ⟨b, o, none⟩ ∧ ∀ j u, vs[j]? = some u -> w.cell? ⟨b, o + j, none⟩ = some u
theorem RRow.below {w w' : World} {A : Option Addr} {vs : List Value} {B : Nat} (h : RRow w A vs) (hb : Below B w w') (hB : w.heap.size ≤ B) : RRow w' A vs := fun hn => by
 obtain ⟨b, o, rfl, hc⟩ := h hn
 exact ⟨b, o, rfl, fun j u hj => (hb.cell (p := ⟨b, o + j, none⟩) (by have := ze (hc j u hj); show b < B; omega)).trans (hc j u hj)⟩
theorem RRow.alloc {w : World} {A : Option Addr} {vs : List Value} (h : RRow w A vs) (o : Obj) : RRow (w.alloc o) A vs := h.below ((Below.refl _ _).alloc nl o) nl
theorem RRow.addr {w : World} {A : Option Addr} {vs : List Value} (h : RRow w A vs) (hn : vs ≠ []) : ∃ b o, A = some ⟨b, o, none⟩ := by
 obtain ⟨b, o, rfl, _⟩ := h hn; exact ⟨b, o, rfl⟩
theorem RRow.pg {w : World} {b o k : Nat} {ps : List Pg} {p : Pg} (h : RRow w (some ⟨b, o, none⟩) (pgs ps)) (hk : ps[k]? = some p) :
 w.cell? ⟨b, o + k * 5, none⟩ = some (.int .i64 p.state) ∧ w.cell? ⟨b, o + k * 5 + 1, none⟩ = some (.int .i64 p.rc.kind) ∧ w.cell? ⟨b, o + k * 5 + 2, none⟩ = some (.int .i64 p.rc.seq) ∧
  w.cell? ⟨b, o + k * 5 + 3, none⟩ = some (.int .i64 p.rc.addr) ∧ w.cell? ⟨b, o + k * 5 + 4, none⟩ = some (.int .i64 p.rc.val) := by
 have hlt := (List.getElem?_eq_some_iff.1 hk).1
 obtain ⟨b', o', he, hc⟩ := h (by intro e; have := yz ps; rw [e] at this; simp at this; omega)
 cases he
 have hg : ∀ j u, p.vs[j]? = some u -> j < 5 -> w.cell? ⟨b, o + (k * 5 + j), none⟩ = some u := fun j u hj hl => hc (k * 5 + j) u (by rw [pgs, jq _ 5 (fun _ => rfl) ps k j p hk hl]; exact hj)
 exact ⟨hg 0 _ rfl (by omega), hg 1 _ rfl (by omega), hg 2 _ rfl (by omega), hg 3 _ rfl (by omega), hg 4 _ rfl (by omega)⟩
structure RBks (w : World) (A : Option Addr) (f : List Bk) (hs : List (Option Addr × Nat)) : Prop where
 len : hs.length = f.length
 row : RRow w A (hdrs f hs)
 pg : ∀ (i : Nat) (b : Bk) (x : Option Addr × Nat), f[i]? = some b -> hs[i]? = some x -> RRow w x.1 (pgs b.pages)
theorem RBks.below {w w' : World} {A : Option Addr} {f : List Bk} {hs : List (Option Addr × Nat)} {B : Nat} (h : RBks w A f hs) (hb : Below B w w') (hB : w.heap.size ≤ B) : RBks w' A f hs :=
 ⟨h.len, h.row.below hb hB, fun i b x h1 h2 => (h.pg i b x h1 h2).below hb hB⟩
theorem RBks.addr {w : World} {A : Option Addr} {f : List Bk} {hs : List (Option Addr × Nat)} (h : RBks w A f hs) (hn : f ≠ []) : ∃ b o, A = some ⟨b, o, none⟩ :=
 h.row.addr (by
  intro e
  have hl := Z7 f hs h.len
  rw [e] at hl
  exact hn (List.eq_nil_of_length_eq_zero (by simp at hl; omega)))
theorem RBks.at_ {w : World} {g o i : Nat} {f : List Bk} {hs : List (Option Addr × Nat)} {b : Bk} (h : RBks w (some ⟨g, o, none⟩) f hs) (hi : f[i]? = some b) :
 ∃ x, hs[i]? = some x ∧ w.cell? ⟨g, o + i * 2, none⟩ = some (.slice x.1 b.pages.length x.2) ∧ w.cell? ⟨g, o + i * 2 + 1, none⟩ = some (.int .i64 b.worn) ∧ RRow w x.1 (pgs b.pages) := by
 have hlt := (List.getElem?_eq_some_iff.1 hi).1
 obtain ⟨x, hx⟩ := zd (l := hs) (k := i) (by rw [h.len]; exact hlt)
 obtain ⟨g1, g2⟩ := Qa f hs i b x hi hx
 obtain ⟨b', o', he, hc⟩ := h.row (by intro e; rw [e] at g1; simp at g1)
 cases he
 exact ⟨x, hx, hc _ _ g1, hc _ _ g2, h.pg i b x hi hx⟩
end
section
open Go.RowKit Go.Maps
theorem zov (a b : Nat) (ha : a < 9223372036854775808) (hb : b < 9223372036854775808) : bits .xor .i64 (a : Int) (b : Int) = ((a ^^^ b : Nat) : Int) := by
 have hx : a ^^^ b < 2 ^ 63 := Nat.xor_lt_two_pow (by omega) (by omega)
 have h1 : (BitVec.ofInt 64 (a : Int)).toNat = a := by
  rw [BitVec.ofInt_natCast, BitVec.toNat_ofNat]; exact Nat.mod_eq_of_lt (by omega)
 have h2 : (BitVec.ofInt 64 (b : Int)).toNat = b := by
  rw [BitVec.ofInt_natCast, BitVec.toNat_ofNat]; exact Nat.mod_eq_of_lt (by omega)
 show IntKind.i64.wrap ((BitVec.ofInt 64 (a : Int) ^^^ BitVec.ofInt 64 (b : Int)).toNat : Int) = _
 rw [BitVec.toNat_xor, h1, h2]
 exact IntWalk.i64_in _ (by omega)
def bytes (bs : List Nat) : List Value := bs.map fun (b : Nat) => Value.int .u8 (b : Int)
def Rd (w : World) (B R m : Nat) : Prop :=
 ∃ (A : Option Addr) (bs : List Nat) (c p : Nat), w.cell? ⟨R, 0, none⟩ = some (.slice A bs.length c) ∧ w.cell? ⟨R, 1, none⟩ = some (.int .i64 p) ∧ w.frozen? ⟨R, 1, none⟩ = false ∧ p ≤ m ∧ bs.length ≤ 2000 ∧ (∀ b ∈ bs, b < 256) ∧
   RRow w A (bytes bs) ∧ (bs ≠ [] -> ∀ b, blk A b -> b < B) ∧ B ≤ R
theorem Rd.lt {w : World} {B R m : Nat} (h : Rd w B R m) : R < w.heap.size := by obtain ⟨A, bs, c, p, h1, _⟩ := h; exact ze h1
theorem Rd.le {w : World} {B R m : Nat} (h : Rd w B R m) : B ≤ R := by obtain ⟨A, bs, c, p, _, _, _, _, _, _, _, _, h⟩ := h; exact h
theorem Rd.mono {w : World} {B R m n : Nat} (h : Rd w B R m) (hm : m ≤ n) : Rd w B R n := by
 obtain ⟨A, bs, c, p, h1, h2, h3, h4, h5⟩ := h
 exact ⟨A, bs, c, p, h1, h2, h3, by omega, h5⟩
theorem zdr {bs : List Nat} (h : bytes bs ≠ []) : bs ≠ [] := fun e => h (by rw [e]; rfl)
theorem znh {bs : List Nat} (h : bs ≠ []) : bytes bs ≠ [] := fun e => h (by simpa [bytes] using e)
theorem RRow.low {w : World} {A : Option Addr} {bs : List Nat} (h : RRow w A (bytes bs)) (hn : bs ≠ []) : ∀ b, blk A b -> b < w.heap.size := fun b hb => by
 obtain ⟨b', o, rfl, hc⟩ := h (znh hn)
 rw [zg] at hb
 subst hb
 cases bs with
 | nil => exact absurd rfl hn
 | cons x bs => exact ze (hc 0 _ rfl)
theorem RRow.keep {w w' : World} {A : Option Addr} {vs : List Value} (h : RRow w A vs) (hk : vs ≠ [] -> ∀ b, blk A b -> b < w.heap.size -> w'.heap[b]? = w.heap[b]?) : RRow w' A vs := fun hn => by
 replace hk := hk hn
 obtain ⟨b, o, rfl, hc⟩ := h hn
 refine ⟨b, o, rfl, fun j u hj => ?_⟩
 have h1 := hc j u hj
 exact (World.cell?_of_block (a := ⟨b, o + j, none⟩) (hk b (zg.2 rfl) (ze h1))).trans h1
theorem Rd.keep {w w' : World} {B R m : Nat} (h : Rd w B R m) (hk : ∀ b, b = R ∨ b < B -> b < w.heap.size -> w'.heap[b]? = w.heap[b]?) : Rd w' B R m := by
 obtain ⟨A, bs, c, p, h1, h2, h3, h4, h5, h6, h7, h8, h9⟩ := h
 have hR := hk R (.inl rfl) (ze h1)
 exact ⟨A, bs, c, p, (World.cell?_of_block (a := ⟨R, 0, none⟩) hR).trans h1, (World.cell?_of_block (a := ⟨R, 1, none⟩) hR).trans h2, (World.frozen?_of_block (a := ⟨R, 1, none⟩) hR).trans h3, h4, h5, h6, h7.keep fun hn b hb hl => hk b (.inr (h8 (zdr hn) b hb)) hl, h8, h9⟩
theorem Rd.agr {w w' : World} {B R m : Nat} {S : Nat -> Prop} (h : Rd w B R m) (ha : Agr S w w') (h1 : ¬ S R) (h2 : ∀ b, b < B -> ¬ S b) : Rd w' B R m :=
 h.keep fun b hb hl => ha.block b hl (by rcases hb with rfl | hb; exact h1; exact h2 b hb)
theorem Rd.below {w w' : World} {B R m C : Nat} (h : Rd w B R m) (hb : Below C w w') (hC : w.heap.size ≤ C) : Rd w' B R m :=
 h.keep fun b _ hl => hb.block b (by omega)
theorem Rd.alloc {w : World} {B R m : Nat} (h : Rd w B R m) (o : Obj) : Rd (w.alloc o) B R m := h.below (C := w.heap.size) ((Below.refl _ _).alloc nl _) nl
theorem Rd.drew {w : World} {B R m : Nat} (h : Rd w B R m) : Rd w.drew B R m := h.keep fun _ _ _ => rfl
theorem Rd.drewN {w : World} {B R m : Nat} (h : Rd w B R m) (n : Nat) : Rd (w.drewN n) B R m := h.keep fun _ _ _ => rfl
theorem zge (A : Option Addr) (bs : List Nat) (c : Nat) (w : World) (hbc : bs.length ≤ c) (hc : c ≤ 9223372036854775807) (hb : ∀ b ∈ bs, b < 256) (hA : RRow w A (bytes bs)) :
 Calls Tryz.prog 20 #[.slice A bs.length c] w fun e w' => e = .returned (.pointer (some ⟨w.heap.size, 0, none⟩)) ∧ Rd w' w.heap.size w.heap.size 0 ∧ Below w.heap.size w w' := by
 have key : ∀ (bs' : List Nat) (c' : Nat), (bs' ≠ [] -> bs ≠ []) -> bs'.length ≤ 2000 -> (∀ b ∈ bs', b < 256) -> RRow w A (bytes bs') -> Rd (w.alloc (.cells #[.slice A bs'.length c', .int .i64 0] 91)) w.heap.size w.heap.size 0 := fun bs' c' h0 h1 h2 h3 =>
  ⟨A, bs', c', 0, by simp, by simp, by simp, Nat.le_refl _, h1, h2, h3.alloc _, fun hn => hA.low (h0 hn), Nat.le_refl _⟩
 by_cases hl : bs.length ≤ 2000
 . have hk := key bs c id hl hb hA
   go_enter Tryz.func20, Tryz.ntmps20
   go_wp2
   go_ret
   exact ⟨rfl, hk, bw⟩
 . have hk := key (bs.take 2000) c (fun h e => h (by rw [e]; rfl)) (by simp; omega) (fun b h => hb b (List.mem_of_mem_take h)) (fun hn => by
    have hne : bytes bs ≠ [] := by
     intro e
     have : bs = [] := by simpa [bytes] using e
     exact hn (by rw [this]; simp [bytes])
    obtain ⟨b, o, rfl, hcl⟩ := hA hne
    refine ⟨b, o, rfl, fun j u hj => hcl j u ?_⟩
    rw [bytes, List.map_take] at hj
    rw [List.getElem?_take] at hj
    split at hj
    . exact hj
    . cases hj)
   have hl2 : (2000 : Int) ≤ bs.length := by omega
   have hl3 : (2000 : Int) < bs.length := by omega
   rw [show (bs.take 2000).length = 2000 by simp; omega] at hk
   go_enter Tryz.func20, Tryz.ntmps20
   go_wp2
   go_ret
   exact ⟨rfl, hk, bw⟩
theorem zhi {w : World} {b o k : Nat} {bs : List Nat} {x : Nat} (h : RRow w (some ⟨b, o, none⟩) (bytes bs)) (hk : bs[k]? = some x) : w.cell? ⟨b, o + k, none⟩ = some (.int .u8 (x : Int)) := by
 have hlt := (List.getElem?_eq_some_iff.1 hk).1
 obtain ⟨b', o', he, hc⟩ := h (by
  intro e
  have : bs = [] := by simpa [bytes] using e
  subst this; simp at hk)
 cases he
 exact hc k _ (by simp [bytes, hk])
theorem Jz {x n : Nat} (h : 1 ≤ n) : x % n < n := Nat.mod_lt _ h
theorem zkt (n B R m : Nat) (w : World) (hn : 1 ≤ n) (hn2 : n ≤ 1000000) (hm : m ≤ 1000000) (hR : Rd w B R m) :
 Calls Tryz.prog 22 #[.pointer (some ⟨R, 0, none⟩), .int .i64 n] w fun e w' => ∃ k : Nat, e = .returned (.int .i64 k) ∧ k < n ∧ Rd w' B R (m + 1) ∧ Agr (· = R) w w' := by
 obtain ⟨A, bs, c, p, h0, h1, h2, h3, h4, h5, h6, h7, h8⟩ := hR
 have hRl := ze h0
 have hW := z8 h1 (.int .i64 (p + 1))
 have hA : Agr (· = R) w (w.setCell ⟨R, 1, none⟩ (.int .i64 (p + 1))) := hW.agr
 have g0 : (w.setCell ⟨R, 1, none⟩ (.int .i64 (p + 1))).cell? ⟨R, 0, none⟩ = some (.slice A bs.length c) := (hW.old_ 0 (by omega)).trans h0
 have g1 : (w.setCell ⟨R, 1, none⟩ (.int .i64 (p + 1))).cell? ⟨R, 1, none⟩ = some (.int .i64 ((p + 1 : Nat) : Int)) := hW.new_ 0 _ rfl
 have hRd : Rd (w.setCell ⟨R, 1, none⟩ (.int .i64 (p + 1))) B R (m + 1) :=
  ⟨A, bs, c, p + 1, g0, g1, (hW.frozen _).trans h2, by omega, h4, h5, h6.keep fun hn b hb hl => hA.block b hl (by have := h7 (zdr hn) b hb; omega), h7, h8⟩
 have hrow : RRow (w.setCell ⟨R, 1, none⟩ (.int .i64 (p + 1))) A (bytes bs) := h6.keep fun hn b hb hl => hA.block b hl (by have := h7 (zdr hn) b hb; omega)
 clear hW
 have e1 : IntKind.i64.wrap ((p : Int) + 1) = (p : Int) + 1 := IntWalk.i64_in _ (by omega)
 have g1' : (w.setCell ⟨R, 1, none⟩ (.int .i64 (p + 1))).cell? ⟨R, 1, none⟩ = some (.int .i64 ((p : Int) + 1)) := by rw [g1]; rfl
 clear g1
 by_cases hb0 : bs.length = 0
 . have hnil : bs = [] := List.length_eq_zero_iff.1 hb0
   subst hnil
   clear hrow hb0
   go_enter Tryz.func22, Tryz.ntmps22
   go_wp2
   go_ret
   exact ⟨0, rfl, by omega, hRd, hA⟩
 . have hbe : ((bs.length : Int) == 0) = false := by rw [beq_eq_false_iff_ne]; omega
   have hn1 : ¬ (n : Int) < 1 := by omega
   by_cases hlt : p < bs.length
   . obtain ⟨x, hx⟩ := zd hlt
     obtain ⟨b, o, rfl⟩ : ∃ b o, A = some ⟨b, o, none⟩ := h6.addr (by
      intro e
      have : bs = [] := by simpa [bytes] using e
      rw [this] at hlt; simp at hlt)
     have hbR : b < R := by have := h7 (by rintro rfl; simp at *) b (zg.2 rfl); omega
     have hc := zhi h6 hx
     have hx2 := h5 x (List.mem_of_getElem? hx)
     have hpl : (p : Int) < bs.length := by omega
     have hmod : ((x : Int).tmod (n : Int)) = ((x % n : Nat) : Int) := by rw [Int.tmod_eq_emod_of_nonneg (by omega)]; rfl
     have hk := Jz (x := x) hn
     clear hrow
     have HX := Lib.hid hx
     have HM := Lib.hid hmod
     clear hx hmod
     go_enter Tryz.func22, Tryz.ntmps22
     go_wp2
     go_ret
     exact ⟨x % n, qp (by simp), hk, hRd, hA⟩
   . obtain ⟨b, o, rfl⟩ : ∃ b o, A = some ⟨b, o, none⟩ := h6.addr (by
      intro e
      have : bs = [] := by simpa [bytes] using e
      rw [this] at hb0; simp at hb0)
     have hbR : b < R := by have := h7 (by rintro rfl; simp at *) b (zg.2 rfl); omega
     have hL0 : 1 ≤ bs.length := by omega
     obtain ⟨x, hx⟩ := zd (Jz (x := p) hL0)
     obtain ⟨y, hy⟩ := zd (Jz (x := p * 7 + 3) hL0)
     have hc := zhi h6 hx
     have hc' := zhi h6 hy
     have hx2 := h5 x (List.mem_of_getElem? hx)
     have hy2 := h5 y (List.mem_of_getElem? hy)
     have hpl : (bs.length : Int) ≤ p := by omega
     have hL1 : (1 : Int) ≤ bs.length := by omega
     have hdl : p / bs.length ≤ p := Nat.div_le_self _ _
     have m1 := Jz (x := p) hL0
     have m2 := Jz (x := p * 7 + 3) hL0
     have v1 : (p : Int).tmod (bs.length : Int) = ((p % bs.length : Nat) : Int) := by rw [Int.tmod_eq_emod_of_nonneg (by omega)]; rfl
     have v2 : ((p : Int) * 7 + 3).tmod (bs.length : Int) = (((p * 7 + 3) % bs.length : Nat) : Int) := by rw [Int.tmod_eq_emod_of_nonneg (by omega)]; rfl
     have v3 : (p : Int).tdiv (bs.length : Int) = ((p / bs.length : Nat) : Int) := by rw [Int.tdiv_eq_ediv_of_nonneg (by omega)]; rfl
     generalize p / bs.length = q at *
     generalize p % bs.length = q1 at *
     generalize (p * 7 + 3) % bs.length = q2 at *
     have n1 : (q1 : Int) < bs.length := by omega
     have n2 : (q2 : Int) < bs.length := by omega
     have w1 : IntKind.i64.wrap ((p : Int) * 7) = (p : Int) * 7 := IntWalk.i64_in _ (by omega)
     have w2 : IntKind.i64.wrap ((p : Int) * 7 + 3) = (p : Int) * 7 + 3 := IntWalk.i64_in _ (by omega)
     have w3 : IntKind.i64.wrap ((x : Int) * 131) = (x : Int) * 131 := IntWalk.i64_in _ (by omega)
     have w4 : IntKind.i64.wrap ((y : Int) * 1117) = (y : Int) * 1117 := IntWalk.i64_in _ (by omega)
     have w5 : IntKind.i64.wrap ((x : Int) * 131 + (y : Int) * 1117) = (x : Int) * 131 + (y : Int) * 1117 := IntWalk.i64_in _ (by omega)
     have w6 : IntKind.i64.wrap ((p : Int) * 29) = (p : Int) * 29 := IntWalk.i64_in _ (by omega)
     have w7 : IntKind.i64.wrap ((x : Int) * 131 + (y : Int) * 1117 + (p : Int) * 29) = (x : Int) * 131 + (y : Int) * 1117 + (p : Int) * 29 := IntWalk.i64_in _ (by omega)
     have w8 : IntKind.i64.wrap ((q : Int) * 53) = (q : Int) * 53 := IntWalk.i64_in _ (by omega)
     have w9 : IntKind.i64.wrap ((x : Int) * 131 + (y : Int) * 1117 + (p : Int) * 29 + (q : Int) * 53) = (x : Int) * 131 + (y : Int) * 1117 + (p : Int) * 29 + (q : Int) * 53 := IntWalk.i64_in _ (by omega)
     clear hx hy
     go_enter Tryz.func22, Tryz.ntmps22
     go_wp2
     go_quiet (fail)
     obtain ⟨X, hX, hXl⟩ : ∃ X : Nat, (x : Int) * 131 + (y : Int) * 1117 + (p : Int) * 29 + (q : Int) * 53 = (X : Int) ∧ X < 1000000000000 := ⟨x * 131 + y * 1117 + p * 29 + q * 53, by simp, by omega⟩
     rw [hX]
     clear hX w1 w2 w3 w4 w5 w6 w7 w8 w9 v1 v2 v3
     have hx1 : bits .xor .i64 (X : Int) ((X : Int) / 64) = ((X ^^^ X / 64 : Nat) : Int) := zov X (X / 64) (by omega) (by omega)
     have hx2 : bits .xor .i64 (X : Int) ((X : Int).tdiv 64) = ((X ^^^ X / 64 : Nat) : Int) := by rw [Int.tdiv_eq_ediv_of_nonneg (by omega)]; exact hx1
     generalize X ^^^ X / 64 = z at *
     have hk := Jz (x := z) hn
     have hmod : ((z : Int).tmod (n : Int)) = ((z % n : Nat) : Int) := by rw [Int.tmod_eq_emod_of_nonneg (by omega)]; rfl
     have HM := Lib.hid hmod
     clear hmod
     go_wp2
     go_ret
     exact ⟨z % n, qp (by simp), hk, hRd.drewN _, hA.drewN _⟩
end
section
open Go.RowKit Go.Maps
theorem yi {w : World} {b o k : Nat} {ps : List Pg} {q : Pg} (h : Row w (some ⟨b, o, none⟩) (pgs ps)) (hk : ps[k]? = some q) (p : Pg) :
 xr w (((((w.setCell ⟨b, o + k * 5, none⟩ (.int .i64 p.state)).setCell ⟨b, o + k * 5 + 1, none⟩ (.int .i64 p.rc.kind)).setCell ⟨b, o + k * 5 + 2, none⟩ (.int .i64 p.rc.seq)).setCell ⟨b, o + k * 5 + 3, none⟩ (.int .i64 p.rc.addr)).setCell ⟨b, o + k * 5 + 4, none⟩ (.int .i64 p.rc.val)) b (o + k * 5) p.vs := by
 refine zn b p.vs (o + k * 5) w fun j hj => ?_
 obtain ⟨c0, c1, c2, c3, c4⟩ := h.pg hk
 match j, hj with
 | 0, _ => exact ⟨_, c0⟩
 | 1, _ => exact ⟨_, c1⟩
 | 2, _ => exact ⟨_, c2⟩
 | 3, _ => exact ⟨_, c3⟩
 | 4, _ => exact ⟨_, c4⟩
theorem Row.setPage {w w' : World} {b o k : Nat} {ps : List Pg} {p : Pg} (h : Row w (some ⟨b, o, none⟩) (pgs ps)) (hk : k < ps.length) (hw : xr w w' b (o + k * 5) p.vs) : Row w' (some ⟨b, o, none⟩) (pgs (ps.set k p)) := by
 rw [zgo ps k p hk]
 exact hw.row h (by rw [yz]; simp [Pg.vs]; omega)

theorem zao {α : Type} (p : α) (old : List α) (k : Nat) (h : k < old.length) : (List.replicate k p ++ old.drop k).set k p = List.replicate (k + 1) p ++ old.drop (k + 1) := by
 rw [List.set_append_right _ _ (by simp), List.length_replicate, Nat.sub_self, List.drop_eq_getElem_cons h, List.set_cons_zero, List.replicate_succ']
 simp
theorem zll (b : Nat) (old : List Pg) (p : Pg) (w : World) (hl : old.length = 4) (hR : Row w (some ⟨b, 0, none⟩) (pgs old)) :
 Calls Tryz.prog 118 #[.pointer (some ⟨b, 0, none⟩), .agg #[.int .i64 p.state, .int .i64 p.rc.kind, .int .i64 p.rc.seq, .int .i64 p.rc.addr, .int .i64 p.rc.val]] w fun e w' =>
  e = .returned (.tuple #[]) ∧ Row w' (some ⟨b, 0, none⟩) (pgs (List.replicate 4 p)) ∧ Agr (· = b) w w' := by
 have hbl : b < w.heap.size := hR.lt (kq (by rintro rfl; simp at hl)) rfl
 have HL := Lib.hid hl
 clear hl
 obtain ⟨st, ⟨kd, sq, ad, vl⟩⟩ := p
 dsimp only
 go_enter Tryz.func118, Tryz.ntmps118
 go_wp2
 go_loopw [5] (fun i wr => ∃ (k : Nat), k ≤ 4 ∧ i = .int .i64 k ∧ Row wr (some ⟨b, 0, none⟩) (pgs (List.replicate k ⟨st, ⟨kd, sq, ad, vl⟩⟩ ++ old.drop k)) ∧ Agr (· = b) (w.alloc (.cells #[.int .i64 st, .int .i64 kd, .int .i64 sq, .int .i64 ad, .int .i64 vl] 76)) wr) (fun i _ => 4 - (intOf i).toNat)
 case atStart => exact ⟨0, by omega, rfl, by simpa using hR.alloc _, Agr.refl _ _⟩
 case round =>
  obtain ⟨k, hk, rfl, hr, hA⟩ := hrel
  by_cases hlt : k < 4
  . have hlen := HL.out
    obtain ⟨q, hq⟩ := zd (l := List.replicate k (⟨st, ⟨kd, sq, ad, vl⟩⟩ : Pg) ++ old.drop k) (k := k) (by simp; omega)
    have hbox : ∀ i, wr.cell? ⟨w.heap.size, i, none⟩ = (w.alloc (.cells #[.int .i64 st, .int .i64 kd, .int .i64 sq, .int .i64 ad, .int .i64 vl] 76)).cell? ⟨w.heap.size, i, none⟩ := fun i =>
     hA.cell (by simp) (by omega) i
    have b0 : wr.cell? ⟨w.heap.size, 0, none⟩ = some (.int .i64 st) := (hbox 0).trans (by simp)
    have b1 : wr.cell? ⟨w.heap.size, 1, none⟩ = some (.int .i64 kd) := (hbox 1).trans (by simp)
    have b2 : wr.cell? ⟨w.heap.size, 2, none⟩ = some (.int .i64 sq) := (hbox 2).trans (by simp)
    have b3 : wr.cell? ⟨w.heap.size, 3, none⟩ = some (.int .i64 ad) := (hbox 3).trans (by simp)
    have b4 : wr.cell? ⟨w.heap.size, 4, none⟩ = some (.int .i64 vl) := (hbox 4).trans (by simp)
    obtain ⟨c0, c1, c2, c3, c4⟩ := hr.pg hq
    obtain ⟨f0, f1, f2, f3, f4⟩ := hr.pgf hq
    have hW := yi hr hq ⟨st, ⟨kd, sq, ad, vl⟩⟩
    rw [Nat.zero_add] at c0 c1 c2 c3 c4 f0 f1 f2 f3 f4
    clear hbox hq hlen
    go_wp2
    go_region
    go_wp2
    go_roundw
    case rel =>
     refine ⟨k + 1, by omega, by go_num, ?_, ?_⟩
     . have := hr.setPage (k := k) (by have := HL.out; simp; omega) hW
       rw [Nat.zero_add, zao _ _ _ (by have := HL.out; omega)] at this
       exact this.drew
     . rw [Nat.zero_add] at hW
       exact (hA.trans hW.agr (fun _ _ h => h)).drew
    case measure => simp [intOf]; omega
  . obtain rfl : k = 4 := by omega
    go_wp2
    go_end0
    refine ⟨rfl, ?_, ?_⟩
    . rw [show old.drop 4 = [] from List.drop_of_length_le (by have := HL.out; omega), List.append_nil] at hr; exact hr
    . exact ((Agr.refl _ _).alloc _).trans hA (fun _ _ h => h)

theorem Xu (p : Pg) (w : World) :
 Calls Tryz.prog 82 #[.agg #[.int .i64 p.state, .int .i64 p.rc.kind, .int .i64 p.rc.seq, .int .i64 p.rc.addr, .int .i64 p.rc.val]] w fun e w' =>
  ∃ b, e = .returned (.slice (some ⟨b, 0, none⟩) 4 4) ∧ w.heap.size ≤ b ∧ b < w'.heap.size ∧ Row w' (some ⟨b, 0, none⟩) (pgs (List.replicate 4 p)) ∧ Below w.heap.size w w' := by
 obtain ⟨st, ⟨kd, sq, ad, vl⟩⟩ := p
 dsimp only
 go_enter Tryz.func82, Tryz.ntmps82
 go_wp2_with fail
 have hb0 : Below w.heap.size w ((w.alloc (.cells #[.int .i64 st, .int .i64 kd, .int .i64 sq, .int .i64 ad, .int .i64 vl] 76)).alloc (.cells #[.int .i64 0, .int .i64 0, .int .i64 0, .int .i64 0, .int .i64 0, .int .i64 0, .int .i64 0, .int .i64 0, .int .i64 0, .int .i64 0, .int .i64 0, .int .i64 0, .int .i64 0, .int .i64 0, .int .i64 0, .int .i64 0, .int .i64 0, .int .i64 0, .int .i64 0, .int .i64 0] 165)) := ((Below.refl _ _).alloc nl _).alloc (by simp) _
 have hsz : ∀ (W : World) (o : Obj), (W.alloc o).heap.size = W.heap.size + 1 := fun W o => by simp
 have hsz2 := Lib.hid (hsz (w.alloc (.cells #[.int .i64 st, .int .i64 kd, .int .i64 sq, .int .i64 ad, .int .i64 vl] 76)) (.cells #[.int .i64 0, .int .i64 0, .int .i64 0, .int .i64 0, .int .i64 0, .int .i64 0, .int .i64 0, .int .i64 0, .int .i64 0, .int .i64 0, .int .i64 0, .int .i64 0, .int .i64 0, .int .i64 0, .int .i64 0, .int .i64 0, .int .i64 0, .int .i64 0, .int .i64 0, .int .i64 0] 165))
 clear hsz
 refine (zll (w.heap.size + 1) (List.replicate 4 ⟨0, rc0⟩) ⟨st, ⟨kd, sq, ad, vl⟩⟩ _ rfl ?_).mono ?_
 . have := Row.new (w.alloc (.cells #[.int .i64 st, .int .i64 kd, .int .i64 sq, .int .i64 ad, .int .i64 vl] 76)) #[.int .i64 0, .int .i64 0, .int .i64 0, .int .i64 0, .int .i64 0, .int .i64 0, .int .i64 0, .int .i64 0, .int .i64 0, .int .i64 0, .int .i64 0, .int .i64 0, .int .i64 0, .int .i64 0, .int .i64 0, .int .i64 0, .int .i64 0, .int .i64 0, .int .i64 0, .int .i64 0] 165
   rw [World.size_alloc] at this
   exact this
 . rintro e w1 ⟨rfl, hR, hA⟩
   have hB1 : Below w.heap.size w w1 := hb0.trans (hA.below (by simp; omega) (by rintro i rfl; omega))
   have hs1 : w.heap.size + 1 < w1.heap.size := by have := hA.size; rw [hsz2.out, World.size_alloc] at this; omega
   clear hA hb0 hsz2
   go_wp2
   go_ret
   exact ⟨_, rfl, by omega, hs1, hR, hB1⟩

theorem zgr (ps : List Pg) : ∀ v ∈ pgs ps, v.oneCell' = true := by
 intro v hv
 simp only [pgs, List.mem_flatMap] at hv
 obtain ⟨p, _, hp⟩ := hv
 simp only [Pg.vs, List.mem_cons, List.not_mem_nil, or_false] at hp
 rcases hp with rfl | rfl | rfl | rfl | rfl <;> rfl
theorem Tryz.info_page : (Tryz.prog.info? 76).map (·.size) = some 5 := by kernel_rfl
theorem za8 (A : Option Addr) (c : Nat) (ps : List Pg) (w : World) (hl : ps.length = 4) (hR : Row w A (pgs ps)) :
 Calls Tryz.prog 117 #[.slice A 4 c] w fun e w' =>
  ∃ b, e = .returned (.slice (some ⟨b, 0, none⟩) 4 4) ∧ w.heap.size ≤ b ∧ b < w'.heap.size ∧ Row w' (some ⟨b, 0, none⟩) (pgs ps) ∧ Below w.heap.size w w' := by
 obtain ⟨pb, po, rfl⟩ := hR.addr (kq (by rintro rfl; simp at hl))
 have HL := Lib.hid hl
 clear hl
 have hlen : (pgs ps).length = 20 := by rw [yz, HL.out]
 have hR0 : Row (w.alloc (.cells #[.int .i64 0, .int .i64 0, .int .i64 0, .int .i64 0, .int .i64 0, .int .i64 0, .int .i64 0, .int .i64 0, .int .i64 0, .int .i64 0, .int .i64 0, .int .i64 0, .int .i64 0, .int .i64 0, .int .i64 0, .int .i64 0, .int .i64 0, .int .i64 0, .int .i64 0, .int .i64 0] 165)) (some ⟨w.heap.size, 0, none⟩) (pgs (List.replicate 4 ⟨0, rc0⟩)) := Row.new w #[.int .i64 0, .int .i64 0, .int .i64 0, .int .i64 0, .int .i64 0, .int .i64 0, .int .i64 0, .int .i64 0, .int .i64 0, .int .i64 0, .int .i64 0, .int .i64 0, .int .i64 0, .int .i64 0, .int .i64 0, .int .i64 0, .int .i64 0, .int .i64 0, .int .i64 0, .int .i64 0] _
 obtain ⟨b', o', he, hc⟩ := hR0 (by simp [pgs, Pg.vs])
 cases he
 have hg : ∀ j, j < 20 -> ∃ u, (pgs (List.replicate 4 ⟨0, rc0⟩))[j]? = some u := fun j hj => zd (by rw [yz]; simpa using hj)
 obtain ⟨b', o', he, hc'⟩ := (hR.alloc (.cells #[.int .i64 0, .int .i64 0, .int .i64 0, .int .i64 0, .int .i64 0, .int .i64 0, .int .i64 0, .int .i64 0, .int .i64 0, .int .i64 0, .int .i64 0, .int .i64 0, .int .i64 0, .int .i64 0, .int .i64 0, .int .i64 0, .int .i64 0, .int .i64 0, .int .i64 0, .int .i64 0] 165)) (by intro e; rw [e] at hlen; simp at hlen)
 cases he
 have hcp := zbp (P := Tryz.prog) (w.alloc (.cells #[.int .i64 0, .int .i64 0, .int .i64 0, .int .i64 0, .int .i64 0, .int .i64 0, .int .i64 0, .int .i64 0, .int .i64 0, .int .i64 0, .int .i64 0, .int .i64 0, .int .i64 0, .int .i64 0, .int .i64 0, .int .i64 0, .int .i64 0, .int .i64 0, .int .i64 0, .int .i64 0] 165)) 97 97 3 76 5 w.heap.size 0 4 4 ⟨pb, po, none⟩ 4 c 4 (pgs ps) Tryz.underlying97 Tryz.info_page rfl hlen
  (fun j v hj => by rw [Qd]; exact (hc' j v hj).1) (fun j hj => by obtain ⟨u, hu⟩ := hg j (by omega); rw [(hc j u hu).1]; rfl) (fun j hj => by obtain ⟨u, hu⟩ := hg j (by omega); exact (hc j u hu).2) (zgr ps)
 have hW := zn w.heap.size (pgs ps) 0 (w.alloc (.cells #[.int .i64 0, .int .i64 0, .int .i64 0, .int .i64 0, .int .i64 0, .int .i64 0, .int .i64 0, .int .i64 0, .int .i64 0, .int .i64 0, .int .i64 0, .int .i64 0, .int .i64 0, .int .i64 0, .int .i64 0, .int .i64 0, .int .i64 0, .int .i64 0, .int .i64 0, .int .i64 0] 165)) (fun j hj => by obtain ⟨u, hu⟩ := hg j (by omega); exact ⟨u, (hc j u hu).1⟩)
 obtain ⟨W1, hW1⟩ : ∃ W1, (w.alloc (.cells #[.int .i64 0, .int .i64 0, .int .i64 0, .int .i64 0, .int .i64 0, .int .i64 0, .int .i64 0, .int .i64 0, .int .i64 0, .int .i64 0, .int .i64 0, .int .i64 0, .int .i64 0, .int .i64 0, .int .i64 0, .int .i64 0, .int .i64 0, .int .i64 0, .int .i64 0, .int .i64 0] 165)).setCells w.heap.size 0 (pgs ps) = W1 := ⟨_, rfl⟩
 rw [hW1] at hcp hW
 have hr1 : Row W1 (some ⟨w.heap.size, 0, none⟩) (pgs ps) := fun _ => ⟨_, _, rfl, fun j u hj => ⟨by have := hW.new_ j u hj; rw [Nat.zero_add] at this ⊢; exact this, by
  rw [hW.frozen]; have hjl := (List.getElem?_eq_some_iff.1 hj).1; obtain ⟨u', hu'⟩ := hg j (by omega); exact (hc j u' hu').2⟩⟩
 have hs1 : w.heap.size < W1.heap.size := by rw [hW.size, World.size_alloc]; omega
 have hB1 : Below w.heap.size w W1 := ((Below.refl _ _).alloc nl _).trans (hW.agr.below (by simp) (by rintro i rfl; omega))
 clear hW hW1 hc hc' hg hR0 hlen hR HL
 go_enter Tryz.func117, Tryz.ntmps117
 go_wp2
 go_ret
 exact ⟨_, rfl, Nat.le_refl _, hs1, hr1, hB1⟩

theorem Q5 (w : World) : (Instr.makeSlice 25 (.int .i64 4) (.int .i64 4)).run Tryz.prog w = .ok (.slice (some ⟨w.heap.size, 0, none⟩) 4 4) (w.alloc (.cells #[.slice none 0 0, .int .i64 0, .slice none 0 0, .int .i64 0, .slice none 0 0, .int .i64 0, .slice none 0 0, .int .i64 0] 99)) := by kernel_rfl
theorem Zn (A : Option Addr) (c : Nat) (f : List Bk) (w : World) (hl : f.length = 4) (hp : ∀ b ∈ f, b.pages.length = 4) (hF : Fl w A f) :
 Calls Tryz.prog 81 #[.slice A 4 c] w fun e w' =>
  ∃ g, e = .returned (.slice (some ⟨g, 0, none⟩) 4 4) ∧ OFl w' w.heap.size w'.heap.size (some ⟨g, 0, none⟩) f ∧ Below w.heap.size w w' := by
 obtain ⟨hs, hF⟩ := hF
 obtain ⟨bk, off, rfl⟩ := hF.addr (by rintro rfl; simp at hl)
 have HL := Lib.hid hl
 have HP := Lib.hid hp
 clear hl hp
 have hmk := Q5
 have hnew := Bks.new w 4 99 #[.slice none 0 0, .int .i64 0, .slice none 0 0, .int .i64 0, .slice none 0 0, .int .i64 0, .slice none 0 0, .int .i64 0] rfl
 have hB0 : Below w.heap.size w (w.alloc (.cells #[.slice none 0 0, .int .i64 0, .slice none 0 0, .int .i64 0, .slice none 0 0, .int .i64 0, .slice none 0 0, .int .i64 0] 99)) := (Below.refl _ _).alloc nl _
 go_enter Tryz.func81, Tryz.ntmps81
 go_wp2
 go_loopw [11] (fun i wr => ∃ (k : Nat) (ks : List (Option Addr × Nat)), k ≤ 4 ∧ i = .int .i64 k ∧ Below w.heap.size w wr ∧ w.heap.size < wr.heap.size ∧ Bks wr (some ⟨w.heap.size, 0, none⟩) (f.take k ++ (List.replicate 4 zbk).drop k) ks ∧ Apt w.heap.size wr.heap.size (some ⟨w.heap.size, 0, none⟩) ks) (fun i _ => 4 - (intOf i).toNat)
 case atStart => exact ⟨0, _, by omega, rfl, hB0, by simp, hnew, (Apt.new _ _).mono nl (by simp)⟩
 case round =>
  clear hnew hB0
  obtain ⟨k, ks, hk, rfl, hb, hsz, hBk, hApt⟩ := hrel
  by_cases hlt : k < 4
  . obtain ⟨B, hB⟩ := zd (l := f) (k := k) (by have := HL.out; omega)
    have hBl : B.pages.length = 4 := HP.out B (List.mem_of_getElem? hB)
    obtain ⟨⟨Ap, cp⟩, _, c0, c1, _, _, hR, hlc⟩ := hF.at_ hB
    have hbk : bk < w.heap.size := ze c0
    replace c0 := (hb.cell (p := ⟨bk, off + k * 2, none⟩) hbk).trans c0
    replace c1 := (hb.cell (p := ⟨bk, off + k * 2 + 1, none⟩) hbk).trans c1
    have hRw := (hR.below hb nl)
    have HB := Lib.hid hB
    have HBL := Lib.hid hBl
    rw [hBl] at c0
    clear hbk hB hR hBl hlc
    go_wp2
    have hx0 : (wr.alloc (.cells #[.slice Ap 4 cp, .int .i64 B.worn] 99)).cell? ⟨wr.heap.size, 0, none⟩ = some (.slice Ap 4 cp) := by simp
    have hx1 : (wr.alloc (.cells #[.slice Ap 4 cp, .int .i64 B.worn] 99)).cell? ⟨wr.heap.size, 1, none⟩ = some (.int .i64 B.worn) := by simp
    have hRW := hRw.alloc (.cells #[.slice Ap 4 cp, .int .i64 B.worn] 99)
    have hBW := hBk.alloc (.cells #[.slice Ap 4 cp, .int .i64 B.worn] 99)
    have hbW : Below w.heap.size w (wr.alloc (.cells #[.slice Ap 4 cp, .int .i64 B.worn] 99)) := hb.alloc hb.size _
    have hsW : (wr.alloc (.cells #[.slice Ap 4 cp, .int .i64 B.worn] 99)).heap.size = wr.heap.size + 1 := by simp
    generalize wr.alloc (.cells #[.slice Ap 4 cp, .int .i64 B.worn] 99) = W at *
    have HSW := Lib.hid hsW
    have hne1 : ¬ (w.heap.size = wr.heap.size) := by omega
    have hne2 : ¬ (wr.heap.size = w.heap.size) := by omega
    have HG : Hid ((f.take k ++ (List.replicate 4 zbk).drop k)[k]? = some zbk) := by
     have := HL.out
     rw [Hid, List.getElem?_append_right (by simp; omega), List.getElem?_drop, List.getElem?_replicate, if_pos (by simp; omega)]
    clear hsW hRw hBk hb c0 c1
    go_region_held3 (fun w' => w'.cell? ⟨wr.heap.size, 0, none⟩ = some (.slice Ap 4 cp) ∧ w'.cell? ⟨wr.heap.size, 1, none⟩ = some (.int .i64 B.worn)) (go_keep)
     (first | (go_at_call 117; refine (za8 Ap cp B.pages _ HBL.out (by exact hRW)).mono ?_; rintro e w1 ⟨b, rfl, h1, h2, h3, h4⟩; have y0 := (h4.cell (p := ⟨wr.heap.size, 0, none⟩) (by have := HSW.out; simp; omega)).trans hx0; have y1 := (h4.cell (p := ⟨wr.heap.size, 1, none⟩) (by have := HSW.out; simp; omega)).trans hx1; replace h4 := Xh h4; have hBk1 := hBW.below h4 nl; obtain ⟨_, _, z0, z1, z2, z3, _, _⟩ := hBk1.at_ HG.out; rw [Nat.zero_add] at z0 z1 z2 z3))
    have hW := Qg hBk1 HG.out (.slice (some ⟨b, 0, none⟩) 4 4) (.int .i64 B.worn)
    have hB2 : Below w.heap.size w w1 := hbW.trans (h4.mono (by have := HSW.out; omega))
    have e1 := HL.out
    have e2 := HBL.out
    have e3 := HSW.out
    simp only [World.size_drew] at h1
    have hR2 := hBk1.setBlock (i := k) (x := (some ⟨b, 0, none⟩, 4)) (c := B) (by simp; omega) (fun j y hy e => (hApt.in_ j y _ hy e).2.2 rfl) (by rw [zg]; omega) h3 (by omega) (by rw [e2]; exact hW)
    rw [zfn zbk f 4 k B HB.out e1] at hR2
    have hApt2 := hApt.set (hi' := w1.heap.size) k (some ⟨b, 0, none⟩, 4) (fun c hc => by rw [zg] at hc; subst hc; exact ⟨by omega, h2⟩) (by omega) (by omega)
    rw [Nat.zero_add] at hR2 hW
    have hB3 := hB2.trans (hW.agr.below (B := w.heap.size) hB2.size (fun i e => by rw [e]; exact Nat.le_refl _))
    have hs3 := hW.size
    have hs4 : w.heap.size < w1.heap.size := by omega
    have HS3 := Lib.hid hs3
    clear hs3 e1 e2 e3 hW hB2 hBk1
    go_wp2
    go_roundw
    case rel => exact ⟨k + 1, _, by omega, by go_num, hB3, by rw [HS3.out]; exact hs4, hR2, by rw [HS3.out]; exact hApt2⟩
    case measure => simp [intOf]; omega
  . obtain rfl : k = 4 := by omega
    go_wp2
    go_ret
    refine ⟨_, rfl, ⟨ks, ?_, hApt⟩, hb⟩
    have := HL.out
    rw [show (List.replicate 4 zbk).drop 4 = [] from rfl, List.append_nil, List.take_of_length_le (by omega)] at hBk
    exact hBk
end
section
open Go.RowKit Go.Maps
def pg0 : Pg := ⟨0, rc0⟩
def Ze : Bk := ⟨List.replicate 4 pg0, 0⟩
def zx : List Bk := List.replicate 4 Ze
theorem zdc (w : World) :
 Calls Tryz.prog 44 #[] w fun e w' => ∃ g, e = .returned (.slice (some ⟨g, 0, none⟩) 4 4) ∧ OFl w' w.heap.size w'.heap.size (some ⟨g, 0, none⟩) zx ∧ Below w.heap.size w w' := by
 have hmk := Q5
 have hnew := Bks.new w 4 99 #[.slice none 0 0, .int .i64 0, .slice none 0 0, .int .i64 0, .slice none 0 0, .int .i64 0, .slice none 0 0, .int .i64 0] rfl
 have hB0 : Below w.heap.size w (w.alloc (.cells #[.slice none 0 0, .int .i64 0, .slice none 0 0, .int .i64 0, .slice none 0 0, .int .i64 0, .slice none 0 0, .int .i64 0] 99)) := (Below.refl _ _).alloc nl _
 go_enter Tryz.func44, Tryz.ntmps44
 go_wp2
 go_loopw [6] (fun i wr => ∃ (k : Nat) (ks : List (Option Addr × Nat)), k ≤ 4 ∧ i = .int .i64 k ∧ Below w.heap.size w wr ∧ w.heap.size < wr.heap.size ∧ Bks wr (some ⟨w.heap.size, 0, none⟩) (zx.take k ++ (List.replicate 4 zbk).drop k) ks ∧ Apt w.heap.size wr.heap.size (some ⟨w.heap.size, 0, none⟩) ks) (fun i _ => 4 - (intOf i).toNat)
 case atStart => exact ⟨0, _, by omega, rfl, hB0, by simp, hnew, (Apt.new _ _).mono nl (by simp)⟩
 case round =>
  clear hnew hB0
  obtain ⟨k, ks, hk, rfl, hb, hsz, hBk, hApt⟩ := hrel
  by_cases hlt : k < 4
  . have HG : Hid ((zx.take k ++ (List.replicate 4 zbk).drop k)[k]? = some zbk) := by
     rw [Hid, List.getElem?_append_right (by simp [zx]; omega), List.getElem?_drop, List.getElem?_replicate, if_pos (by simp [zx]; omega)]
    go_wp2_with fail
    refine (Xu pg0 _).mono ?_
    rintro e w1 ⟨b, rfl, h1, h2, h3, h4⟩
    have hBk1 := hBk.below h4 nl
    obtain ⟨_, _, z0, z1, z2, z3, _, _⟩ := hBk1.at_ HG.out
    have hW := (z8 z0 (.slice (some ⟨b, 0, none⟩) 4 4)).more z1
    have hR2 := hBk1.setBlock (i := k) (x := (some ⟨b, 0, none⟩, 4)) (c := Ze) (by simp [zx]; omega) (fun j y hy e => (hApt.in_ j y _ hy e).2.2 rfl) (by rw [zg]; omega) h3 (by simp [Ze]) hW
    rw [zfn zbk zx 4 k Ze (by rw [zx, List.getElem?_replicate, if_pos hlt]) rfl] at hR2
    have hApt2 := hApt.set (hi' := w1.heap.size) k (some ⟨b, 0, none⟩, 4) (fun c hc => by rw [zg] at hc; subst hc; exact ⟨by omega, h2⟩) (by omega) (by omega)
    have hB2 : Below w.heap.size w w1 := hb.trans (h4.mono (by omega))
    have hB3 := hB2.trans (hW.agr.below (B := w.heap.size) hB2.size (fun i e => by rw [e]; exact Nat.le_refl _))
    have hs4 : w.heap.size < w1.heap.size := by omega
    rw [Nat.zero_add] at z0 z1 z2 z3 hR2 hB3
    have HS3 := Lib.hid hW.size
    rw [Nat.zero_add] at HS3
    clear hW hB2 hBk1 hBk h4
    go_wp2
    go_roundw
    case rel => exact ⟨k + 1, _, by omega, by go_num, hB3, by rw [HS3.out]; exact hs4, hR2, by rw [HS3.out]; exact hApt2⟩
    case measure => simp [intOf]; omega
  . obtain rfl : k = 4 := by omega
    go_wp2
    go_ret
    exact ⟨_, rfl, ⟨ks, hBk, hApt⟩, hb⟩

def wipe (f : List Bk) (i : Nat) (torn : Bool) : List Bk :=
 f.set i ⟨List.replicate 4 (if torn then ⟨2, rc0⟩ else pg0), (f.getD i zbk).worn + 1⟩
def k8 (f : List Bk) (block : Int) (torn : Bool) : List Bk × Bool :=
 if zc f = false ∨ jy block = false then ([], false) else if (f.getD block.toNat zbk).worn = 200 then (f, false) else (wipe f block.toNat torn, true)
def ziv (r : List Bk × Bool) (w : World) (e : Ending) (w' : World) : Prop :=
 ∃ A c, e = .returned (.tuple #[.slice A r.1.length c, .bool r.2]) ∧ r.1.length ≤ c ∧ OFl w' w.heap.size w'.heap.size A r.1 ∧ Below w.heap.size w w'
theorem Q0 (w : World) (lo hi : Nat) : OFl w lo hi none [] :=
 ⟨[], ⟨rfl, Row.nil _ _, fun _ _ _ h _ => absurd h (by simp)⟩, ⟨fun _ h => (by cases h), fun _ _ _ h _ => absurd h (by simp), fun _ _ _ _ _ h _ _ _ => absurd h (by simp)⟩⟩
theorem OFl.replaced {w3 w4 w5 : World} {lo g b i n : Nat} {f : List Bk} {hs : List (Option Addr × Nat)} {c : Bk} (hBk : Bks w3 (some ⟨g, 0, none⟩) f hs) (hApt : Apt lo w3.heap.size (some ⟨g, 0, none⟩) hs) (hi : i < f.length)
 (h1 : w3.heap.size ≤ b) (h2 : b < w4.heap.size) (h3 : Row w4 (some ⟨b, 0, none⟩) (pgs c.pages)) (h4 : Below w3.heap.size w3 w4) (hc : c.pages.length = n) (hlo : lo ≤ w3.heap.size) (hW : xr w4 w5 g (0 + i * 2) [.slice (some ⟨b, 0, none⟩) n n, .int .i64 c.worn]) :
 OFl w5 lo w5.heap.size (some ⟨g, 0, none⟩) (f.set i c) ∧ Below lo w3 w5 := by
 subst hc
 have hBk1 := hBk.below h4 nl
 have hg := hApt.top g (by rw [zg])
 have hs4 := h4.size
 refine ⟨⟨_, hBk1.setBlock (i := i) (x := (some ⟨b, 0, none⟩, c.pages.length)) (c := c) hi (fun j y hy e => (hApt.in_ j y _ hy e).2.2 rfl) (by rw [zg]; omega) h3 nl hW, ?_⟩, ?_⟩
 . rw [hW.size]
   exact hApt.set (hi' := w4.heap.size) i _ (fun d hd => by rw [zg] at hd; omega) hlo (by omega)
 . exact (h4.mono hlo).trans (hW.agr.below (by omega) (fun k e => by rw [e]; exact hg.1))
theorem zbc (f : List Bk) (block : Int) (torn : Bool) (A : Option Addr) (c : Nat) (w : World) (hF : Fl w A f) :
 Calls Tryz.prog 78 #[.slice A f.length c, .int .i64 block, .bool torn] w (ziv (k8 f block torn) w) := by
 by_cases hok : zc f = true
 . by_cases hbo : jy block = true
   . have hb04 : 0 ≤ block ∧ block < 4 := by unfold jy at hbo; simpa using hbo
     obtain ⟨i, rfl⟩ := Int.eq_ofNat_of_zero_le hb04.1
     have hi4 : i < 4 := by omega
     have hl := zf hok
     have hsh := zm hok
     have HL := Lib.hid hl
     obtain ⟨B, hB⟩ := zd (l := f) (k := i) (by omega)
     have hBm := hsh B (List.mem_of_getElem? hB)
     have hBget : f.getD i zbk = B := by rw [List.getD_eq_getElem?_getD, hB]; rfl
     have HSH := Lib.hid hsh
     clear hsh hb04 hl
     go_enter Tryz.func78, Tryz.ntmps78
     go_wp2_with fail
     refine (xe f A c _ hF).mono ?_
     rintro e w1 ⟨rfl, hb⟩
     rw [hok]
     go_wp2_with fail
     refine (j7 _ _).mono ?_
     rintro e w2 ⟨rfl, rfl⟩
     rw [hbo]
     go_wp2_with fail
     rw [HL.out]
     refine (Zn A c f _ HL.out (fun b hb => (HSH.out b hb).1) (hF.below hb nl)).mono ?_
     rintro e w3 ⟨g, rfl, ⟨hs, hBk, hApt⟩, hb3⟩
     obtain ⟨x, hx, z0, z1, z2, z3, hR, _⟩ := hBk.at_ hB
     rw [Nat.zero_add] at z0 z1 z2 z3
     obtain ⟨hw1, hw2, hw3⟩ := hBm
     have hB3 : Below w.heap.size w w3 := hb.trans (hb3.mono hb.size)
     have hg := hApt.top g (by rw [zg])
     by_cases h200 : B.worn = 200
     . have hfin : Hid (k8 f i torn = (f, false)) := by unfold Hid k8; rw [hok, hbo, Int.toNat_natCast, hBget]; simp [h200]
       rw [h200] at z1
       go_wp2
       go_ret2
       rw [hfin.out]
       exact ⟨some ⟨g, 0, none⟩, 4, Qv HL.out.symm, by rw [HL.out]; exact Nat.le_refl _, ⟨hs, hBk, hApt.mono hb.size nl⟩, hB3⟩
     . have hfin : Hid (k8 f i torn = (wipe f i torn, true)) := by unfold Hid k8; rw [hok, hbo, Int.toNat_natCast, hBget]; simp [h200]
       have hlt : B.worn < 200 := by omega
       have hi4' : (i : Int) < 4 := by omega
       have hi0 : (0 : Int) ≤ i := by omega
       have hwr : IntKind.i64.wrap (B.worn + 1) = B.worn + 1 := IntWalk.i64_in _ (by omega)
       cases torn
       . go_wp2
         go_region_law (first | (go_simp; go_at_call 82; refine (Xu ⟨0, rc0⟩ _).mono ?_; rintro e w4 ⟨b, rfl, h1, h2, h3, h4⟩; replace h4 := Xh h4; have y1 := (h4.cell (p := ⟨g, i * 2 + 1, none⟩) hg.2).trans z1; have y0 := (h4.cell (p := ⟨g, i * 2, none⟩) hg.2).trans z0; have y2 := (h4.frozen (p := ⟨g, i * 2, none⟩) hg.2).trans z2; have y3 := (h4.frozen (p := ⟨g, i * 2 + 1, none⟩) hg.2).trans z3))
         all_goals
          have hBk1 := hBk.below h4 nl
          have hW := Qg hBk1 hB (.slice (some ⟨b, 0, none⟩) 4 4) (.int .i64 (B.worn + 1))
          obtain ⟨hO, hb5⟩ := OFl.replaced (c := ⟨List.replicate 4 ⟨0, rc0⟩, B.worn + 1⟩) hBk hApt (by have := HL.out; omega) h1 h2 h3 h4 (by simp) hb3.size hW
          rw [Nat.zero_add] at hO hb5
          have hBf : Below w.heap.size w _ := hB3.trans (hb5.mono hb.size)
          have hO' := hO.mono hb.size nl
          clear hO hb5 hW hBk1
          go_wp2
          go_ret2
          rw [hfin.out]
          have el : (wipe f i false).length = 4 := by unfold wipe; rw [List.length_set]; exact HL.out
          exact ⟨some ⟨g, 0, none⟩, 4, Qv el.symm, by rw [el]; exact Nat.le_refl _, by unfold wipe; rw [hBget]; exact hO', hBf⟩
       . go_wp2
         go_region_law (first | (go_simp; go_at_call 82; refine (Xu ⟨2, rc0⟩ _).mono ?_; rintro e w4 ⟨b, rfl, h1, h2, h3, h4⟩; replace h4 := Xh h4; have y1 := (h4.cell (p := ⟨g, i * 2 + 1, none⟩) hg.2).trans z1; have y0 := (h4.cell (p := ⟨g, i * 2, none⟩) hg.2).trans z0; have y2 := (h4.frozen (p := ⟨g, i * 2, none⟩) hg.2).trans z2; have y3 := (h4.frozen (p := ⟨g, i * 2 + 1, none⟩) hg.2).trans z3))
         all_goals
          have hBk1 := hBk.below h4 nl
          have hW := Qg hBk1 hB (.slice (some ⟨b, 0, none⟩) 4 4) (.int .i64 (B.worn + 1))
          obtain ⟨hO, hb5⟩ := OFl.replaced (c := ⟨List.replicate 4 ⟨2, rc0⟩, B.worn + 1⟩) hBk hApt (by have := HL.out; omega) h1 h2 h3 h4 (by simp) hb3.size hW
          rw [Nat.zero_add] at hO hb5
          have hBf : Below w.heap.size w _ := hB3.trans (hb5.mono hb.size)
          have hO' := hO.mono hb.size nl
          clear hO hb5 hW hBk1
          go_wp2
          go_ret2
          rw [hfin.out]
          have el : (wipe f i true).length = 4 := by unfold wipe; rw [List.length_set]; exact HL.out
          exact ⟨some ⟨g, 0, none⟩, 4, Qv el.symm, by rw [el]; exact Nat.le_refl _, by unfold wipe; rw [hBget]; exact hO', hBf⟩
   . have hfin : Hid (k8 f block torn = ([], false)) := by unfold Hid k8; simp [hbo]
     have ho : jy block = false := by simpa using hbo
     go_enter Tryz.func78, Tryz.ntmps78
     go_wp2_with fail
     refine (xe f A c _ hF).mono ?_
     rintro e w1 ⟨rfl, hb⟩
     rw [hok]
     go_wp2_with fail
     refine (j7 _ _).mono ?_
     rintro e w2 ⟨rfl, rfl⟩
     rw [ho]
     go_wp2
     go_ret2
     rw [hfin.out]
     exact ⟨none, 0, rfl, Nat.le_refl _, Q0 _ _ _, hb⟩
 . have hfin : Hid (k8 f block torn = ([], false)) := by unfold Hid k8; simp [hok]
   have ho : zc f = false := by simpa using hok
   go_enter Tryz.func78, Tryz.ntmps78
   go_wp2_with fail
   refine (xe f A c _ hF).mono ?_
   rintro e w1 ⟨rfl, hb⟩
   rw [ho]
   go_wp2
   go_ret2
   rw [hfin.out]
   exact ⟨none, 0, rfl, Nat.le_refl _, Q0 _ _ _, hb⟩
end
section
def xm (p : Pg) : Bool := decide (p.state = 0)
def clean (b : Bk) : Nat := b.pages.countP xm
def jd (s : Int) (p : Pg) : Bool := decide (p.state = 1) && decide (p.rc.seq = s)
def qd (f : List Bk) (s : Int) : Bool := f.any fun b => b.pages.any (jd s)
def zv (addr : Int) (o : Rc) (p : Pg) : Rc := if p.state = 1 ∧ p.rc.addr = addr ∧ o.seq < p.rc.seq then p.rc else o
def xp (addr : Int) (o : Rc) (ps : List Pg) : Rc := ps.foldl (zv addr) o
def last (f : List Bk) (addr : Int) : Rc := f.foldl (fun o b => xp addr o b.pages) rc0
def live (f : List Bk) (p : Pg) : Bool := decide (p.state = 1) && decide (last f p.rc.addr = p.rc)
def jk (n : Int) (ps : List Pg) : Int := ps.foldl (fun n p => max n p.rc.seq) n
def most (b : Bk) : Int := jk 0 b.pages
def xi (n : Int) (p : Pg) : Int := if 0 < p.rc.seq ∧ (n = 0 ∨ p.rc.seq < n) then p.rc.seq else n
def jo (b : Bk) : Int := b.pages.foldl xi 0
def y8 (f : List Bk) : Int := f.foldl (fun n b => max n (most b)) 0
def next (f : List Bk) : Int := y8 f + 1
def jv (f : List Bk) : Nat -> Int -> List Bk -> Int × Bool
 | _, out, [] => (max out 0, decide (0 ≤ out))
 | i, out, b :: r => if 0 < clean b ∧ clean b < 4 then (i, true) else if 0 < clean b ∧ (out < 0 ∨ b.worn < (f.getD out.toNat zbk).worn) then jv f (i + 1) i r else jv f (i + 1) out r
def kz (f : List Bk) : Int × Bool := jv f 0 (-1) f
def Kk (f : List Bk) : Nat -> Nat -> List Bk -> Nat
 | _, out, [] => out
 | i, out, b :: r => if most b < most (f.getD out zbk) then Kk f (i + 1) i r else Kk f (i + 1) out r
def old (f : List Bk) : Nat := Kk f 1 0 (f.drop 1)
end
section
def xd (ps : List Pg) : List Int := (ps.filter fun p => decide (p.state = 1)).map fun p => p.rc.seq
def x8 (f : List Bk) : List Int := f.flatMap fun b => xd b.pages
theorem ko (p : Pg) (ps : List Pg) : xd (p :: ps) = if p.state = 1 then p.rc.seq :: xd ps else xd ps := by
 unfold xd
 rw [List.filter_cons]
 by_cases h : p.state = 1 <;> simp [h]
theorem Kv (k : List Int -> Bool) : ∀ (ps : List Pg) (seen : List Int), jh seen k ps = true ↔ (∀ p ∈ ps, zp p = true) ∧ (xd ps).Nodup ∧ (∀ q ∈ xd ps, q ∉ seen) ∧ k ((xd ps).reverse ++ seen) = true
 | [], seen => by simp [jh, xd]
 | p :: ps, seen => by
   unfold jh
   rw [ko]
   by_cases h1 : zp p = false
   . simp [h1]
   . have h1' : zp p = true := by simpa using h1
     rw [if_neg h1]
     by_cases h2 : p.state = 1
     . rw [if_neg (by simpa using h2), if_pos h2]
       by_cases h3 : p.rc.seq ∈ seen
       . rw [if_pos h3]
         constructor
         . intro h; cases h
         . rintro ⟨_, _, h, _⟩; exact absurd h3 (h _ (List.mem_cons_self ..))
       . rw [if_neg h3, Kv k ps]
         constructor
         . rintro ⟨a, b, c, d⟩
           refine ⟨?_, List.nodup_cons.2 ⟨fun hm => c _ hm (List.mem_cons_self ..), b⟩, ?_, ?_⟩
           . intro q hq; rcases List.mem_cons.1 hq with rfl | hq; exact h1'; exact a q hq
           . intro q hq; rcases List.mem_cons.1 hq with rfl | hq; exact h3; exact fun hm => c q hq (List.mem_cons_of_mem _ hm)
           . rw [List.reverse_cons, List.append_assoc]; exact d
         . rintro ⟨a, b, c, d⟩
           obtain ⟨b1, b2⟩ := List.nodup_cons.1 b
           refine ⟨fun q hq => a q (List.mem_cons_of_mem _ hq), b2, ?_, ?_⟩
           . intro q hq hm
             rcases List.mem_cons.1 hm with rfl | hm
             . exact b1 hq
             . exact c q (List.mem_cons_of_mem _ hq) hm
           . rw [List.reverse_cons, List.append_assoc] at d; exact d
     . rw [if_pos h2, if_neg h2, Kv k ps]
       constructor
       . rintro ⟨a, b⟩
         exact ⟨fun q hq => by rcases List.mem_cons.1 hq with rfl | hq; exact h1'; exact a q hq, b⟩
       . rintro ⟨a, b⟩
         exact ⟨fun q hq => a q (List.mem_cons_of_mem _ hq), b⟩
theorem Yy : ∀ (f : List Bk) (seen : List Int), kl seen f = true ↔ (∀ b ∈ f, zy b = true ∧ ∀ p ∈ b.pages, zp p = true) ∧ (x8 f).Nodup ∧ (∀ q ∈ x8 f, q ∉ seen)
 | [], seen => by simp [kl, x8]
 | b :: f, seen => by
   unfold kl
   rw [show x8 (b :: f) = xd b.pages ++ x8 f from by simp [x8]]
   by_cases h1 : zy b = false
   . simp [h1]
   . have h1' : zy b = true := by simpa using h1
     rw [if_neg h1, Kv, Yy f]
     constructor
     . rintro ⟨a, b1, c, d, e, g⟩
       refine ⟨fun x hx => ?_, List.nodup_append.2 ⟨b1, e, fun x hx y hy hxy => ?_⟩, fun q hq => ?_⟩
       . rcases List.mem_cons.1 hx with rfl | hx
         . exact ⟨h1', a⟩
         . exact d x hx
       . subst hxy; exact g x hy (List.mem_append_left _ (List.mem_reverse.2 hx))
       . rcases List.mem_append.1 hq with hq | hq
         . exact c q hq
         . exact fun hm => g q hq (List.mem_append_right _ hm)
     . rintro ⟨a, b1, c⟩
       obtain ⟨n1, n2, n3⟩ := List.nodup_append.1 b1
       refine ⟨(a b (List.mem_cons_self ..)).2, n1, fun q hq => c q (List.mem_append_left _ hq), fun x hx => a x (List.mem_cons_of_mem _ hx), n2, fun q hq hm => ?_⟩
       rcases List.mem_append.1 hm with hm | hm
       . exact n3 q (List.mem_reverse.1 hm) q hq rfl
       . exact c q (List.mem_append_right _ hq) hm
theorem jm (f : List Bk) : zc f = true ↔ f.length = 4 ∧ (∀ b ∈ f, zy b = true ∧ ∀ p ∈ b.pages, zp p = true) ∧ (x8 f).Nodup := by
 unfold zc
 rw [Bool.and_eq_true, decide_eq_true_iff, Yy]
 constructor
 . rintro ⟨a, b, c, _⟩; exact ⟨a, b, c⟩
 . rintro ⟨a, b, c⟩; exact ⟨a, b, c, fun _ _ h => by cases h⟩
theorem zej : ∀ (f : List Bk) (i : Nat) (b : Bk), xd b.pages = [] -> (x8 (f.set i b)).Sublist (x8 f)
 | [], i, b, h => by simp
 | c :: f, 0, b, h => by
   rw [List.set_cons_zero, show x8 (b :: f) = xd b.pages ++ x8 f from by simp [x8], show x8 (c :: f) = xd c.pages ++ x8 f from by simp [x8], h]
   exact List.sublist_append_right _ _
 | c :: f, i + 1, b, h => by
   rw [List.set_cons_succ, show x8 (c :: f.set i b) = xd c.pages ++ x8 (f.set i b) from by simp [x8], show x8 (c :: f) = xd c.pages ++ x8 f from by simp [x8]]
   exact (zej f i b h).append_left _
theorem zh8 {f : List Bk} {i : Nat} (h : i < f.length) : f.getD i zbk ∈ f := by
 rw [List.getD_eq_getElem?_getD, List.getElem?_eq_getElem h]
 exact List.getElem_mem h
theorem Y7 {f : List Bk} (h : zc f = true) {i : Nat} (hi : i < 4) (torn : Bool) (hw : (f.getD i zbk).worn ≠ 200) : zc (wipe f i torn) = true := by
 have hs := zm h _ (zh8 (i := i) (by have := zf h; omega))
 rw [jm] at h ⊢
 obtain ⟨a, b, c⟩ := h
 have key : zy ⟨List.replicate 4 (if torn then ⟨2, rc0⟩ else pg0), (f.getD i zbk).worn + 1⟩ = true := by
  unfold zy
  have h1 : 0 ≤ (f.getD i zbk).worn + 1 := by omega
  have h2 : (f.getD i zbk).worn + 1 ≤ 200 := by omega
  simp only [h1, h2, decide_true, Bool.true_and, List.length_replicate]
  cases torn <;> decide
 refine ⟨by unfold wipe; simpa using a, fun x hx => ?_, (zej f i _ ?_).nodup c⟩
 . unfold wipe at hx
   rcases List.mem_or_eq_of_mem_set hx with hx | rfl
   . exact b x hx
   . refine ⟨key, fun p hp => ?_⟩
     have := List.eq_of_mem_replicate hp
     subst this
     cases torn <;> decide
 . show xd (List.replicate 4 (if torn then ⟨2, rc0⟩ else pg0)) = []
   cases torn <;> decide
theorem zoy {f : List Bk} {i : Nat} (h : i < f.length) (torn : Bool) : (wipe f i torn)[i]? = some ⟨List.replicate 4 (if torn then ⟨2, rc0⟩ else pg0), (f.getD i zbk).worn + 1⟩ := by
 unfold wipe; rw [List.getElem?_set_self h]
theorem zj9 {f : List Bk} {i j : Nat} (h : j ≠ i) (torn : Bool) : (wipe f i torn)[j]? = f[j]? := by
 unfold wipe; rw [List.getElem?_set_ne (by omega)]
end
section
open Go.RowKit Go.Maps
theorem Ym (b : Bk) (A : Option Addr) (c : Nat) (w : World) (hl : b.pages.length < 1000000000000) (hR : Row w A (pgs b.pages)) :
 Calls Tryz.prog 108 #[.agg #[.slice A b.pages.length c, .int .i64 b.worn]] w fun e w' => e = .returned (.int .i64 (clean b)) ∧ Below w.heap.size w w' := by
 obtain ⟨ps, n⟩ := b
 dsimp only at *
 have hT : Hid ((clean ⟨ps, n⟩ : Int) = 0 + (ps.drop 0).countP xm) := by unfold Hid clean; simp
 go_enter Tryz.func108, Tryz.ntmps108
 go_wp2
 go_loopw [3, 4] (fun q i wr => ∃ (k m : Nat), k ≤ ps.length ∧ i = .int .i64 k ∧ q = .int .i64 m ∧ m ≤ k ∧ wr = w.alloc (.cells #[.slice A ps.length c, .int .i64 n] 99) ∧ Hid ((clean ⟨ps, n⟩ : Int) = m + (ps.drop k).countP xm)) (fun _ i _ => ps.length - (intOf i).toNat)
 case atStart => exact ⟨0, 0, by omega, rfl, rfl, by omega, rfl, hT⟩
 case round =>
  clear hT
  obtain ⟨k, m, hk, rfl, rfl, hm, rfl, hT⟩ := hrel
  by_cases hlt : k < ps.length
  . obtain ⟨p, hp⟩ := zd hlt
    obtain ⟨bk, o, rfl⟩ := hR.addr (kq (by rintro rfl; simp at hlt))
    obtain ⟨c0, _⟩ := (hR.alloc (.cells #[.slice (some ⟨bk, o, none⟩) ps.length c, .int .i64 n] 99)).pg hp
    have hd := Lib.hid (zu hp)
    have hk1 : (k : Int) < ps.length := by omega
    clear hp
    by_cases h0 : p.state = 0
    . have hi : Hid (xm p = true) := by unfold Hid xm; simp [h0]
      rw [h0] at c0
      clear h0
      go_wp2
      go_roundw
      case rel => exact ⟨k + 1, m + 1, by omega, by go_num, by go_num, by omega, by trivial, by rw [Hid, hT.out, hd.out, List.countP_cons, hi.out]; simp; omega⟩
      case measure => simp [intOf]; omega
    . have hi : Hid (xm p = false) := by unfold Hid xm; simp [h0]
      go_wp2
      go_roundw
      case rel => exact ⟨k + 1, m, by omega, by go_num, rfl, by omega, by trivial, by rw [Hid, hT.out, hd.out, List.countP_cons, hi.out]; simp⟩
      case measure => simp [intOf]; omega
  . obtain rfl : k = ps.length := by omega
    go_wp2
    go_ret
    exact ⟨qp (by rw [hT.out, List.drop_of_length_le nl]; simp), bw⟩
theorem qn (b : Bk) (A : Option Addr) (c : Nat) (w : World) (hl : b.pages.length < 1000000000000) (hR : Row w A (pgs b.pages)) :
 Calls Tryz.prog 112 #[.agg #[.slice A b.pages.length c, .int .i64 b.worn]] w fun e w' => e = .returned (.int .i64 (most b)) ∧ Below w.heap.size w w' := by
 obtain ⟨ps, n⟩ := b
 dsimp only at *
 have hT : Hid (most ⟨ps, n⟩ = jk 0 (ps.drop 0)) := rfl
 go_enter Tryz.func112, Tryz.ntmps112
 go_wp2
 go_loopw [3, 4] (fun q i wr => ∃ (k : Nat) (m : Int), k ≤ ps.length ∧ i = .int .i64 k ∧ q = .int .i64 m ∧ wr = w.alloc (.cells #[.slice A ps.length c, .int .i64 n] 99) ∧ Hid (most ⟨ps, n⟩ = jk m (ps.drop k))) (fun _ i _ => ps.length - (intOf i).toNat)
 case atStart => exact ⟨0, 0, by omega, rfl, rfl, rfl, hT⟩
 case round =>
  clear hT
  obtain ⟨k, m, hk, rfl, rfl, rfl, hT⟩ := hrel
  by_cases hlt : k < ps.length
  . obtain ⟨p, hp⟩ := zd hlt
    obtain ⟨bk, o, rfl⟩ := hR.addr (kq (by rintro rfl; simp at hlt))
    obtain ⟨c0, c1, c2, c3, c4⟩ := (hR.alloc (.cells #[.slice (some ⟨bk, o, none⟩) ps.length c, .int .i64 n] 99)).pg hp
    have hd := Lib.hid (zu hp)
    have hk1 : (k : Int) < ps.length := by omega
    clear hp
    go_wp2
    go_roundw
    case rel => exact ⟨k + 1, max m p.rc.seq, by omega, by go_num, by congr 1; split <;> omega, by trivial, by rw [Hid, hT.out, hd.out]; rfl⟩
    case measure => simp [intOf]; omega
  . obtain rfl : k = ps.length := by omega
    go_wp2
    go_ret
    exact ⟨qp (by rw [hT.out, List.drop_of_length_le nl]; rfl), bw⟩
end
section
open Go.RowKit Go.Maps
def zbe (s : Int) (b : Bk) : Bool := b.pages.any (jd s)
theorem zi8 (f : List Bk) (s : Int) (A : Option Addr) (c : Nat) (w : World) (hl : f.length < 1000000000000) (hp : ∀ b ∈ f, b.pages.length < 1000000000000) (hF : Fl w A f) :
 Calls Tryz.prog 135 #[.slice A f.length c, .int .i64 s] w fun e w' => e = .returned (.bool (qd f s)) ∧ w = w' := by
 obtain ⟨hs, hBk⟩ := hF
 have HP := Lib.hid hp
 have hT : Hid (qd f s = (f.drop 0).any (zbe s)) := rfl
 clear hp
 go_enter Tryz.func135, Tryz.ntmps135
 go_wp2
 go_loop [5] (fun i => ∃ (k : Nat), k ≤ f.length ∧ i = .int .i64 k ∧ Hid (qd f s = (f.drop k).any (zbe s))) (fun i => f.length - (intOf i).toNat)
 case atStart => exact ⟨0, by omega, rfl, hT⟩
 case round =>
  clear hT
  obtain ⟨k, hk, rfl, hT⟩ := hrel
  by_cases hlt : k < f.length
  . obtain ⟨B, hB⟩ := zd hlt
    obtain ⟨g, o, rfl⟩ := hBk.addr (by rintro rfl; simp at hlt)
    obtain ⟨⟨Ap, cp⟩, _, z0, _, _, _, hR, _⟩ := hBk.at_ hB
    have hd := Lib.hid (zu hB)
    have hpl := HP.out B (List.mem_of_getElem? hB)
    have hk1 : (k : Int) < f.length := by omega
    obtain ⟨ps, n⟩ := B
    dsimp only at *
    have hT0 : Hid (qd f s = ((ps.drop 0).any (jd s) || (f.drop (k + 1)).any (zbe s))) := by rw [Hid, hT.out, hd.out]; rfl
    clear hB hT hd
    go_wp2
    go_loop [6] (fun j => ∃ (m : Nat), m ≤ ps.length ∧ j = .int .i64 m ∧ Hid (qd f s = ((ps.drop m).any (jd s) || (f.drop (k + 1)).any (zbe s)))) (fun j => ps.length - (intOf j).toNat)
    case atStart => exact ⟨0, by omega, rfl, hT0⟩
    case round =>
     clear hT0
     obtain ⟨m, hm, rfl, hT⟩ := hrel
     by_cases hltm : m < ps.length
     . obtain ⟨p, hq⟩ := zd hltm
       obtain ⟨pb, po, rfl⟩ := hR.addr (kq (by rintro rfl; simp at hltm))
       obtain ⟨c0, c1, c2, c3, c4⟩ := hR.pg hq
       have hd := Lib.hid (zu hq)
       have hm1 : (m : Int) < ps.length := by omega
       have hT1 : Hid (qd f s = (jd s p || ((ps.drop (m + 1)).any (jd s) || (f.drop (k + 1)).any (zbe s)))) := by rw [Hid, hT.out, hd.out, List.any_cons, Bool.or_assoc]
       clear hq hT hd
       by_cases h1 : p.state = 1
       . by_cases h2 : p.rc.seq = s
         . have hi : Hid (jd s p = true) := by unfold Hid jd; simp [h1, h2]
           rw [h1] at c0
           rw [h2] at c2
           clear h1 h2
           go_wp2
           go_ret
           exact ⟨zk (by rw [hT1.out, hi.out]; rfl), rfl⟩
         . have hi : Hid (jd s p = false) := by unfold Hid jd; simp [h1, h2]
           rw [h1] at c0
           clear h1
           go_wp2
           go_round
           case rel => exact ⟨m + 1, by omega, by go_num, by rw [Hid, hT1.out, hi.out]; rfl⟩
           case measure => simp [intOf]; omega
       . have hi : Hid (jd s p = false) := by unfold Hid jd; simp [h1]
         go_wp2
         go_round
         case rel => exact ⟨m + 1, by omega, by go_num, by rw [Hid, hT1.out, hi.out]; rfl⟩
         case measure => simp [intOf]; omega
     . obtain rfl : m = ps.length := by omega
       go_wp2
       go_round
       case rel => exact ⟨k + 1, by omega, by go_num, by rw [Hid, hT.out, List.drop_of_length_le nl]; rfl⟩
       case measure => simp [intOf]; omega
  . obtain rfl : k = f.length := by omega
    go_wp2
    go_ret
    exact ⟨zk (by rw [hT.out, List.drop_of_length_le nl]; rfl), rfl⟩
theorem zgh (f : List Bk) (A : Option Addr) (c : Nat) (w : World) (hl : f.length < 1000000000000) (hp : ∀ b ∈ f, b.pages.length < 1000000000000) (hn : ∀ b ∈ f, most b < 1000000000000) (hF : Fl w A f) :
 Calls Tryz.prog 70 #[.slice A f.length c] w fun e w' => e = .returned (.int .i64 (next f)) ∧ Below w.heap.size w w' := by
 have HP := Lib.hid hp
 have HN := Lib.hid hn
 have hT : Hid (y8 f = (f.drop 0).foldl (fun n b => max n (most b)) 0) := rfl
 clear hp hn
 go_enter Tryz.func70, Tryz.ntmps70
 go_wp2
 go_loopw [3, 4] (fun q i wr => ∃ (k : Nat) (m : Int), k ≤ f.length ∧ i = .int .i64 k ∧ q = .int .i64 m ∧ 0 ≤ m ∧ m < 1000000000000 ∧ Below w.heap.size w wr ∧ Hid (y8 f = (f.drop k).foldl (fun n b => max n (most b)) m)) (fun _ i _ => f.length - (intOf i).toNat)
 case atStart => exact ⟨0, 0, by omega, rfl, rfl, by omega, by omega, Below.refl _ _, hT⟩
 case round =>
  clear hT
  obtain ⟨k, m, hk, rfl, rfl, hm0, hm1, hb, hT⟩ := hrel
  by_cases hlt : k < f.length
  . obtain ⟨B, hB⟩ := zd hlt
    obtain ⟨hs, hBk⟩ := hF.below hb nl
    obtain ⟨g, o, rfl⟩ := hBk.addr (by rintro rfl; simp at hlt)
    obtain ⟨⟨Ap, cp⟩, _, z0, z1, _, _, hR, _⟩ := hBk.at_ hB
    have hd := Lib.hid (zu hB)
    have hpl := HP.out B (List.mem_of_getElem? hB)
    have hnl := HN.out B (List.mem_of_getElem? hB)
    have hk1 : (k : Int) < f.length := by omega
    clear hB
    go_wp2_with fail
    refine (qn B Ap cp _ hpl hR).mono ?_
    rintro e w1 ⟨rfl, hb1⟩
    have hB1 := hb.trans (hb1.mono hb.size)
    have hT1 : Hid (y8 f = (f.drop (k + 1)).foldl (fun n b => max n (most b)) (max m (most B))) := by rw [Hid, hT.out, hd.out]; rfl
    clear hT hd
    generalize most B = x at *
    go_wp2
    go_roundw
    case rel => exact ⟨k + 1, max m x, by omega, by go_num, by congr 1; split <;> omega, by omega, by omega, hB1, hT1⟩
    case measure => simp [intOf]; omega
  . obtain rfl : k = f.length := by omega
    go_wp2
    go_ret
    exact ⟨qp (by unfold next; rw [hT.out, List.drop_of_length_le nl]; rfl), hb⟩
theorem Row.rc {w : World} {b o : Nat} {x : Rc} (h : Row w (some ⟨b, o, none⟩) x.vs) :
 w.cell? ⟨b, o, none⟩ = some (.int .i64 x.kind) ∧ w.cell? ⟨b, o + 1, none⟩ = some (.int .i64 x.seq) ∧ w.cell? ⟨b, o + 2, none⟩ = some (.int .i64 x.addr) ∧ w.cell? ⟨b, o + 3, none⟩ = some (.int .i64 x.val) := by
 obtain ⟨b', o', he, hc⟩ := h (by simp [Rc.vs])
 cases he
 exact ⟨(hc 0 _ rfl).1, (hc 1 _ rfl).1, (hc 2 _ rfl).1, (hc 3 _ rfl).1⟩
theorem Row.rcf {w : World} {b o : Nat} {x : Rc} (h : Row w (some ⟨b, o, none⟩) x.vs) :
 w.frozen? ⟨b, o, none⟩ = false ∧ w.frozen? ⟨b, o + 1, none⟩ = false ∧ w.frozen? ⟨b, o + 2, none⟩ = false ∧ w.frozen? ⟨b, o + 3, none⟩ = false := by
 obtain ⟨b', o', he, hc⟩ := h (by simp [Rc.vs])
 cases he
 exact ⟨(hc 0 _ rfl).2, (hc 1 _ rfl).2, (hc 2 _ rfl).2, (hc 3 _ rfl).2⟩
theorem Qf {w : World} {b o : Nat} {x : Rc} (h : Row w (some ⟨b, o, none⟩) x.vs) (y : Rc) :
 xr w ((((w.setCell ⟨b, o, none⟩ (.int .i64 y.kind)).setCell ⟨b, o + 1, none⟩ (.int .i64 y.seq)).setCell ⟨b, o + 2, none⟩ (.int .i64 y.addr)).setCell ⟨b, o + 3, none⟩ (.int .i64 y.val)) b o y.vs := by
 refine zn b y.vs o w fun j hj => ?_
 obtain ⟨c0, c1, c2, c3⟩ := h.rc
 match j, hj with
 | 0, _ => exact ⟨_, c0⟩
 | 1, _ => exact ⟨_, c1⟩
 | 2, _ => exact ⟨_, c2⟩
 | 3, _ => exact ⟨_, c3⟩
theorem xr.rec_ {w w' : World} {b o : Nat} {x y : Rc} (hw : xr w w' b o y.vs) (h : Row w (some ⟨b, o, none⟩) x.vs) : Row w' (some ⟨b, o, none⟩) y.vs := fun _ => by
 obtain ⟨b', o', he, hc⟩ := h (by simp [Rc.vs])
 cases he
 refine ⟨b, o, rfl, fun j u hj => ⟨hw.new_ j u hj, (hw.frozen _).trans ?_⟩⟩
 have hl : j < x.vs.length := (List.getElem?_eq_some_iff.1 hj).1
 exact (hc j _ (List.getElem?_eq_getElem hl)).2
theorem Z0 (f : List Bk) (addr : Int) (A : Option Addr) (c : Nat) (w : World) (hl : f.length < 1000000000000) (hp : ∀ b ∈ f, b.pages.length < 1000000000000) (hF : Fl w A f) :
 Calls Tryz.prog 68 #[.slice A f.length c, .int .i64 addr] w fun e w' => e = .returned (.tuple #[.agg #[.int .i64 (last f addr).kind, .int .i64 (last f addr).seq, .int .i64 (last f addr).addr, .int .i64 (last f addr).val], .bool (decide (0 < (last f addr).seq))]) ∧ Below w.heap.size w w' := by
 have HP := Lib.hid hp
 have hT : Hid (last f addr = (f.drop 0).foldl (fun o b => xp addr o b.pages) rc0) := rfl
 clear hp
 go_enter Tryz.func68, Tryz.ntmps68
 go_wp2
 go_loopw [7] (fun i wr => ∃ (k : Nat) (x : Rc), k ≤ f.length ∧ i = .int .i64 k ∧ Below w.heap.size w wr ∧ w.heap.size + 1 < wr.heap.size ∧ Row wr (some ⟨w.heap.size + 1, 0, none⟩) x.vs ∧ Row wr (some ⟨w.heap.size, 0, none⟩) rc0.vs ∧ Hid (last f addr = (f.drop k).foldl (fun o b => xp addr o b.pages) x)) (fun i _ => f.length - (intOf i).toNat)
 case atStart =>
  refine ⟨0, rc0, by omega, rfl, bw, by simp, ?_, ?_, hT⟩
  . have := Row.new (w.alloc (.cells #[.int .i64 0, .int .i64 0, .int .i64 0, .int .i64 0] 64)) #[.int .i64 0, .int .i64 0, .int .i64 0, .int .i64 0] 64
    simp only [World.size_alloc] at this
    exact this
  . exact (Row.new w #[.int .i64 0, .int .i64 0, .int .i64 0, .int .i64 0] 64).alloc _
 case round =>
  clear hT
  obtain ⟨k, x, hk, rfl, hb, hsz, hx, hz, hT⟩ := hrel
  by_cases hlt : k < f.length
  . obtain ⟨B, hB⟩ := zd hlt
    have hF1 := hF.below hb nl
    obtain ⟨hs, hBk⟩ := hF1
    obtain ⟨g, o, rfl⟩ := hBk.addr (by rintro rfl; simp at hlt)
    obtain ⟨⟨Ap, cp⟩, _, z0, _, _, _, hR, _⟩ := hBk.at_ hB
    have hd := Lib.hid (zu hB)
    have hpl := HP.out B (List.mem_of_getElem? hB)
    have hk1 : (k : Int) < f.length := by omega
    have HB := Lib.hid hB
    obtain ⟨ps, n⟩ := B
    dsimp only at *
    have hT0 : Hid (last f addr = (f.drop (k + 1)).foldl (fun o b => xp addr o b.pages) (xp addr x (ps.drop 0))) := by rw [Hid, hT.out, hd.out]; rfl
    clear hB hT hd
    go_wp2
    go_loopw [8] (fun j wr => ∃ (m : Nat) (x : Rc), m ≤ ps.length ∧ j = .int .i64 m ∧ Below w.heap.size w wr ∧ w.heap.size + 1 < wr.heap.size ∧ Row wr (some ⟨w.heap.size + 1, 0, none⟩) x.vs ∧ Row wr (some ⟨w.heap.size, 0, none⟩) rc0.vs ∧ Hid (last f addr = (f.drop (k + 1)).foldl (fun o b => xp addr o b.pages) (xp addr x (ps.drop m)))) (fun j _ => ps.length - (intOf j).toNat)
    case atStart => exact ⟨0, x, by omega, rfl, hb, hsz, hx, hz, hT0⟩
    case round =>
     clear hT0 z0 hR hBk hx hz hb hsz
     obtain ⟨m, x, hm, rfl, hb, hsz, hx, hz, hT⟩ := hrel
     obtain ⟨hs, hBk⟩ := hF.below hb nl
     obtain ⟨⟨Ap, cp⟩, _, z0, _, _, _, hR, _⟩ := hBk.at_ HB.out
     dsimp only at z0 hR
     by_cases hltm : m < ps.length
     . obtain ⟨p, hq⟩ := zd hltm
       obtain ⟨pb, po, rfl⟩ := hR.addr (kq (by rintro rfl; simp at hltm))
       obtain ⟨c0, c1, c2, c3, c4⟩ := hR.pg hq
       obtain ⟨o0, o1, o2, o3⟩ := hx.rc
       obtain ⟨r0, r1, r2, r3⟩ := hx.rcf
       have hd := Lib.hid (zu hq)
       have hm1 : (m : Int) < ps.length := by omega
       have hT1 : Hid (last f addr = (f.drop (k + 1)).foldl (fun o b => xp addr o b.pages) (xp addr (zv addr x p) (ps.drop (m + 1)))) := by rw [Hid, hT.out, hd.out]; rfl
       have hx1 := hx.alloc (.cells #[.int .i64 p.state, .int .i64 p.rc.kind, .int .i64 p.rc.seq, .int .i64 p.rc.addr, .int .i64 p.rc.val] 76)
       have hz1 := hz.alloc (.cells #[.int .i64 p.state, .int .i64 p.rc.kind, .int .i64 p.rc.seq, .int .i64 p.rc.addr, .int .i64 p.rc.val] 76)
       clear hq hT hd
       by_cases h1 : p.state = 1
       . by_cases h2 : p.rc.addr = addr
         . by_cases h3 : x.seq < p.rc.seq
           . have hi : Hid (zv addr x p = p.rc) := by unfold Hid zv; rw [if_pos ⟨h1, h2, h3⟩]
             subst h2
             have hW := Qf hx p.rc
             have hx2 := (hW.rec_ hx).alloc (.cells #[.int .i64 1, .int .i64 p.rc.kind, .int .i64 p.rc.seq, .int .i64 p.rc.addr, .int .i64 p.rc.val] 76)
             have hz2 := (hW.far hz (by rw [zg]; omega)).alloc (.cells #[.int .i64 1, .int .i64 p.rc.kind, .int .i64 p.rc.seq, .int .i64 p.rc.addr, .int .i64 p.rc.val] 76)
             have hs2 := hW.size
             simp only [Nat.zero_add] at hx2 hz2 o1 o2 o3 r1 r2 r3 hs2
             rw [h1] at c0
             clear h1 hx1 hz1 hW
             go_wp2
             go_roundw
             case rel => exact ⟨m + 1, p.rc, by omega, by go_num, bw, by simp; omega, hx2, hz2, by have h := hT1; rw [hi.out] at h; exact h⟩
             case measure => simp [intOf]; omega
           . have hi : Hid (zv addr x p = x) := by unfold Hid zv; rw [if_neg (fun h => h3 h.2.2)]
             simp only [Nat.zero_add] at o1 o2 o3
             subst h2
             rw [h1] at c0 hx1 hz1
             clear h1
             go_wp2
             go_roundw
             case rel => exact ⟨m + 1, x, by omega, by go_num, bw, by simp; omega, hx1, hz1, by have h := hT1; rw [hi.out] at h; exact h⟩
             case measure => simp [intOf]; omega
         . have hi : Hid (zv addr x p = x) := by unfold Hid zv; rw [if_neg (fun h => h2 h.2.1)]
           rw [h1] at c0 hx1 hz1
           clear h1
           go_wp2
           go_roundw
           case rel => exact ⟨m + 1, x, by omega, by go_num, bw, by simp; omega, hx1, hz1, by have h := hT1; rw [hi.out] at h; exact h⟩
           case measure => simp [intOf]; omega
       . have hi : Hid (zv addr x p = x) := by unfold Hid zv; rw [if_neg (fun h => h1 h.1)]
         go_wp2
         go_roundw
         case rel => exact ⟨m + 1, x, by omega, by go_num, bw, by simp; omega, hx1, hz1, by have h := hT1; rw [hi.out] at h; exact h⟩
         case measure => simp [intOf]; omega
     . obtain rfl : m = ps.length := by omega
       go_wp2
       go_roundw
       case rel => exact ⟨k + 1, x, by omega, by go_num, hb, hsz, hx, hz, by rw [Hid, hT.out, List.drop_of_length_le nl]; rfl⟩
       case measure => simp [intOf]; omega
  . obtain rfl : k = f.length := by omega
    have hfin : Hid (last f addr = x) := by rw [Hid, hT.out, List.drop_of_length_le nl]; rfl
    obtain ⟨o0, o1, o2, o3⟩ := hx.rc
    obtain ⟨q0, q1, q2, q3⟩ := hz.rc
    obtain ⟨r0, r1, r2, r3⟩ := hz.rcf
    simp only [Nat.zero_add] at o1 o2 o3 r1 r2 r3 q1 q2 q3
    go_wp2
    go_region
    go_wp2
    refine bodyPost_ret (v := .tuple #[.agg #[.int .i64 x.kind, .int .i64 x.seq, .int .i64 x.addr, .int .i64 x.val], .bool (decide (0 < x.seq))]) (by simp [results, Tryz.results68, go_sem, q0, q1, q2, q3]) rfl ⟨by rw [hfin.out], bw⟩
theorem zgi (f : List Bk) (p : Pg) (A : Option Addr) (c : Nat) (w : World) (hl : f.length < 1000000000000) (hp : ∀ b ∈ f, b.pages.length < 1000000000000) (hF : Fl w A f) :
 Calls Tryz.prog 115 #[.slice A f.length c, .agg #[.int .i64 p.state, .int .i64 p.rc.kind, .int .i64 p.rc.seq, .int .i64 p.rc.addr, .int .i64 p.rc.val]] w fun e w' => e = .returned (.bool (live f p)) ∧ Below w.heap.size w w' := by
 by_cases h1 : p.state = 1
 . have hfin : Hid (live f p = decide (last f p.rc.addr = p.rc)) := by unfold Hid live; simp [h1]
   rw [h1]
   clear h1
   go_enter Tryz.func115, Tryz.ntmps115
   go_wp2_with fail
   refine (Z0 f p.rc.addr A c _ hl hp (hF.alloc _)).mono ?_
   rintro e w1 ⟨rfl, hb⟩
   have hB : Below w.heap.size w w1 := Below.trans bw (hb.mono (by simp))
   obtain ⟨hc, hf⟩ := jr hb
   have hz : w.heap.size < w1.heap.size := by have := hb.size; simp at this; omega
   have hle : Hid (decide (last f p.rc.addr = p.rc) = (decide ((last f p.rc.addr).kind = p.rc.kind) && (decide ((last f p.rc.addr).seq = p.rc.seq) && (decide ((last f p.rc.addr).addr = p.rc.addr) && decide ((last f p.rc.addr).val = p.rc.val))))) := by
    unfold Hid
    generalize last f p.rc.addr = x
    obtain ⟨a, b, c, d⟩ := x
    obtain ⟨st, e, g, h, i⟩ := p
    simp [Bool.and_assoc]
   generalize last f p.rc.addr = x at *
   clear hb
   go_wp2
   all_goals go_ret
   all_goals exact ⟨zk (by rw [hfin.out, hle.out]; simp [*]), bw⟩
 . have hfin : Hid (live f p = false) := by unfold Hid live; simp [h1]
   go_enter Tryz.func115, Tryz.ntmps115
   go_wp2
   go_ret
   exact ⟨zk hfin.out.symm, bw⟩
end
section
open Go.RowKit Go.Maps
theorem zi7 (f : List Bk) (A : Option Addr) (c : Nat) (w : World) (hl : f.length < 1000000000000) (h0 : 0 < f.length) (hp : ∀ b ∈ f, b.pages.length < 1000000000000) (hF : Fl w A f) :
 Calls Tryz.prog 114 #[.slice A f.length c] w fun e w' => e = .returned (.int .i64 (old f)) ∧ old f < f.length ∧ Below w.heap.size w w' := by
 have HP := Lib.hid hp
 have hT : Hid (old f = Kk f 1 0 (f.drop 1)) := rfl
 clear hp
 go_enter Tryz.func114, Tryz.ntmps114
 go_wp2
 go_loopw [3, 4] (fun q i wr => ∃ (k m : Nat), k ≤ f.length ∧ 1 ≤ k ∧ i = .int .i64 k ∧ q = .int .i64 m ∧ m < f.length ∧ Below w.heap.size w wr ∧ Hid (old f = Kk f k m (f.drop k))) (fun _ i _ => f.length - (intOf i).toNat)
 case atStart => exact ⟨1, 0, by omega, by omega, rfl, rfl, h0, Below.refl _ _, hT⟩
 case round =>
  clear hT
  obtain ⟨k, m, hk, hk0, rfl, rfl, hm, hb, hT⟩ := hrel
  by_cases hlt : k < f.length
  . obtain ⟨B, hB⟩ := zd hlt
    obtain ⟨C, hC⟩ := zd hm
    have hFk := hF.below hb nl
    obtain ⟨hs, hBk⟩ := hFk
    obtain ⟨g, o, rfl⟩ := hBk.addr (by rintro rfl; simp at hlt)
    obtain ⟨⟨Ap, cp⟩, hx1, z0, z1, _, _, hR, _⟩ := hBk.at_ hB
    obtain ⟨⟨Aq, cq⟩, hx2, y0, y1, _, _, hR2, _⟩ := hBk.at_ hC
    have hd := Lib.hid (zu hB)
    have hpl := HP.out B (List.mem_of_getElem? hB)
    have hpl2 := HP.out C (List.mem_of_getElem? hC)
    have hk1 : (k : Int) < f.length := by omega
    have hm1 : (m : Int) < f.length := by omega
    have hgd : f.getD m zbk = C := by rw [List.getD_eq_getElem?_getD, hC]; rfl
    have hT1 : Hid (old f = if most B < most C then Kk f (k + 1) k (f.drop (k + 1)) else Kk f (k + 1) m (f.drop (k + 1))) := by rw [Hid, hT.out, hd.out, Kk, hgd]
    have HB := Lib.hid hB
    have HC := Lib.hid hC
    clear hB hC hT hd hgd hx1 hx2
    go_wp2
    by_cases hxy : most B < most C
    . have hT2 : Hid (old f = Kk f (k + 1) k (f.drop (k + 1))) := by rw [Hid, hT1.out, if_pos hxy]
      clear hT1
      go_region_with (first | (go_at_call 112; (first | with_reducible refine (qn B Ap cp _ hpl (by first | with_reducible exact hR | with_reducible exact hR.drew)).mono ?_ | with_reducible refine (qn C Aq cq _ hpl2 (by first | with_reducible exact hR2 | with_reducible exact hR2.drew)).mono ?_); rintro e w1 ⟨rfl, hb1⟩; (first | (with_reducible replace hb1 := Xh hb1) | skip); replace hb := hb.trans (hb1.mono hb.size); have kk := (jr hb1).1; replace z0 := (kk _ _ (ze z0)).trans z0; replace z1 := (kk _ _ (ze z1)).trans z1; replace y0 := (kk _ _ (ze y0)).trans y0; replace y1 := (kk _ _ (ze y1)).trans y1; replace hR := hR.below hb1 nl; replace hR2 := hR2.below hb1 nl; clear hb1 kk))
      all_goals
       go_wp2
       go_roundw
       (case rel => exact ⟨k + 1, k, by omega, by omega, by go_num, rfl, hlt, hb, hT2⟩)
       (case measure => simp [intOf]; omega)
    . have hT2 : Hid (old f = Kk f (k + 1) m (f.drop (k + 1))) := by rw [Hid, hT1.out, if_neg hxy]
      clear hT1
      go_region_with (first | (go_at_call 112; (first | with_reducible refine (qn B Ap cp _ hpl (by first | with_reducible exact hR | with_reducible exact hR.drew)).mono ?_ | with_reducible refine (qn C Aq cq _ hpl2 (by first | with_reducible exact hR2 | with_reducible exact hR2.drew)).mono ?_); rintro e w1 ⟨rfl, hb1⟩; (first | (with_reducible replace hb1 := Xh hb1) | skip); replace hb := hb.trans (hb1.mono hb.size); have kk := (jr hb1).1; replace z0 := (kk _ _ (ze z0)).trans z0; replace z1 := (kk _ _ (ze z1)).trans z1; replace y0 := (kk _ _ (ze y0)).trans y0; replace y1 := (kk _ _ (ze y1)).trans y1; replace hR := hR.below hb1 nl; replace hR2 := hR2.below hb1 nl; clear hb1 kk))
      all_goals
       go_wp2
       go_roundw
       (case rel => exact ⟨k + 1, m, by omega, by omega, by go_num, rfl, hm, hb, hT2⟩)
       (case measure => simp [intOf]; omega)
  . obtain rfl : k = f.length := by omega
    go_wp2
    go_ret
    have hfin : old f = m := by rw [hT.out, List.drop_of_length_le nl]; rfl
    exact ⟨qp (by rw [hfin]), by rw [hfin]; exact hm, hb⟩
end
section
open Go.RowKit Go.Maps
theorem yq {B : Nat} {w w' : World} (h : Below B w w') (n : Nat) : Below B w (w'.drewN n) := ⟨h.os, h.tape, h.output, h.size, h.block⟩
theorem Bks.worn {w : World} {g o i : Nat} {f : List Bk} {hs : List (Option Addr × Nat)} {b : Bk} (h : Bks w (some ⟨g, o, none⟩) f hs) (hi : f[i]? = some b) : w.cell? ⟨g, o + i * 2 + 1, none⟩ = some (.int .i64 b.worn) := by
 obtain ⟨_, _, _, z1, _⟩ := h.at_ hi; exact z1
theorem zgf (f : List Bk) (A : Option Addr) (c : Nat) (w : World) (hl : f.length < 1000000000000) (hp : ∀ b ∈ f, b.pages.length < 1000000000000) (hF : Fl w A f) :
 Calls Tryz.prog 61 #[.slice A f.length c] w fun e w' => e = .returned (.tuple #[.int .i64 (kz f).1, .bool (kz f).2]) ∧ 0 ≤ (kz f).1 ∧ (f ≠ [] -> (kz f).1 < f.length) ∧ Below w.heap.size w w' := by
 have HP := Lib.hid hp
 have hT : Hid (kz f = jv f 0 (-1) (f.drop 0)) := rfl
 clear hp
 go_enter Tryz.func61, Tryz.ntmps61
 go_wp2
 go_loopw [4, 5] (fun q i wr => ∃ (k : Nat) (m : Int), k ≤ f.length ∧ i = .int .i64 k ∧ q = .int .i64 m ∧ -1 ≤ m ∧ m < f.length ∧ Below w.heap.size w wr ∧ Hid (kz f = jv f k m (f.drop k))) (fun _ i _ => f.length - (intOf i).toNat)
 case atStart => exact ⟨0, -1, by omega, rfl, rfl, by omega, by omega, Below.refl _ _, hT⟩
 case round =>
  clear hT
  obtain ⟨k, m, hk, rfl, rfl, hm0, hm1, hb, hT⟩ := hrel
  by_cases hlt : k < f.length
  . obtain ⟨B, hB⟩ := zd hlt
    have hFk := hF.below hb nl
    obtain ⟨hs, hBk⟩ := hFk
    obtain ⟨g, o, rfl⟩ := hBk.addr (by rintro rfl; simp at hlt)
    obtain ⟨⟨Ap, cp⟩, _, z0, z1, _, _, hR, _⟩ := hBk.at_ hB
    have hd := Lib.hid (zu hB)
    have hpl := HP.out B (List.mem_of_getElem? hB)
    have hk1 : (k : Int) < f.length := by omega
    have hT1 : Hid (kz f = if 0 < clean B ∧ clean B < 4 then ((k : Int), true) else if 0 < clean B ∧ (m < 0 ∨ B.worn < (f.getD m.toNat zbk).worn) then jv f (k + 1) k (f.drop (k + 1)) else jv f (k + 1) m (f.drop (k + 1))) := by rw [Hid, hT.out, hd.out, jv]
    have HB := Lib.hid hB
    clear hB hT hd
    go_wp2_with fail
    refine (Ym B Ap cp _ hpl hR).mono ?_
    rintro e w1 ⟨rfl, hb1⟩
    have hb2 := hb.trans (hb1.mono hb.size)
    have hBk1 := hBk.below hb1 nl
    replace z1 := hBk1.worn HB.out
    have hmx : ∀ m' : Nat, m = m' -> w1.cell? ⟨g, o + m' * 2 + 1, none⟩ = some (.int .i64 (f.getD m.toNat zbk).worn) := fun m' e => by
     subst e
     obtain ⟨C, hC⟩ := zd (l := f) (k := m') (by omega)
     have := hBk1.worn hC
     rw [this, Int.toNat_natCast, List.getD_eq_getElem?_getD, hC]; rfl
    clear hb hb1 z0 hR
    generalize clean B = x at *
    by_cases h1 : 0 < x
    . have h1' : (0 : Int) < x := by omega
      by_cases h2 : x < 4
      . have hfin : Hid (kz f = ((k : Int), true)) := by rw [Hid, hT1.out, if_pos ⟨h1, h2⟩]
        have h2' : (x : Int) < 4 := by omega
        clear hT1
        go_wp2
        go_ret2
        rw [hfin.out]
        exact ⟨rfl, by simp, fun _ => hk1, hb2⟩
      . have h2' : (4 : Int) ≤ x := by omega
        by_cases h3 : m < 0
        . have hT2 : Hid (kz f = jv f (k + 1) k (f.drop (k + 1))) := by rw [Hid, hT1.out, if_neg (fun h => h2 h.2), if_pos ⟨h1, .inl h3⟩]
          clear hT1
          go_wp2
          go_quiet (fail)
          go_wp2
          go_roundw
          case rel => exact ⟨k + 1, k, by omega, by go_num, rfl, by omega, hk1, yq hb2 _, hT2⟩
          case measure => simp [intOf]; omega
        . obtain ⟨m', rfl⟩ := Int.eq_ofNat_of_zero_le (show 0 ≤ m by omega)
          have hmc := hmx m' rfl
          have hT1' : Hid (kz f = if B.worn < (f.getD m' zbk).worn then jv f (k + 1) k (f.drop (k + 1)) else jv f (k + 1) m' (f.drop (k + 1))) := by
           rw [Hid, hT1.out, if_neg (fun h => h2 h.2), Int.toNat_natCast]
           by_cases h4 : B.worn < (f.getD m' zbk).worn
           . rw [if_pos ⟨h1, .inr h4⟩, if_pos h4]
           . rw [if_neg (by intro h; rcases h.2 with h | h; omega; exact h4 h), if_neg h4]
          rw [Int.toNat_natCast] at hmc
          clear hT1 hmx
          generalize (f.getD m' zbk).worn = y at *
          by_cases h4 : B.worn < y
          . have hT2 : Hid (kz f = jv f (k + 1) k (f.drop (k + 1))) := by rw [Hid, hT1'.out, if_pos h4]
            clear hT1'
            go_wp2
            go_quiet (fail)
            go_wp2
            go_roundw
            case rel => exact ⟨k + 1, k, by omega, by go_num, rfl, by omega, hk1, yq hb2 _, hT2⟩
            case measure => simp [intOf]; omega
          . have hT2 : Hid (kz f = jv f (k + 1) m' (f.drop (k + 1))) := by rw [Hid, hT1'.out, if_neg h4]
            clear hT1'
            go_wp2
            go_quiet (fail)
            go_wp2
            go_roundw
            case rel => exact ⟨k + 1, m', by omega, by go_num, rfl, by omega, hm1, yq hb2 _, hT2⟩
            case measure => simp [intOf]; omega
    . obtain rfl : x = 0 := by omega
      have hT2 : Hid (kz f = jv f (k + 1) m (f.drop (k + 1))) := by rw [Hid, hT1.out, if_neg (fun h => h1 h.1), if_neg (fun h => h1 h.1)]
      clear hT1
      go_wp2
      go_quiet (fail)
      go_wp2
      go_roundw
      case rel => exact ⟨k + 1, m, by omega, by go_num, rfl, by omega, hm1, yq hb2 _, hT2⟩
      case measure => simp [intOf]; omega
  . obtain rfl : k = f.length := by omega
    have hfin : Hid (kz f = (max m 0, decide (0 ≤ m))) := by rw [Hid, hT.out, List.drop_of_length_le nl]; rfl
    by_cases hm : m < 0
    . have hm' : ¬ 0 ≤ m := by omega
      go_wp2
      go_ret2
      rw [hfin.out]
      refine ⟨?_, by simp; omega, fun hne => ?_, hb⟩
      . simp [hm']; omega
      . have : 0 < f.length := List.length_pos_iff.2 hne
        simp; omega
    . have hm' : 0 ≤ m := by omega
      go_wp2
      all_goals go_ret2
      all_goals rw [hfin.out]
      all_goals refine ⟨?_, by simp; omega, fun hne => ?_, hb⟩
      all_goals first
       | (have : 0 < f.length := List.length_pos_iff.2 hne; simp; omega)
       | (simp [hm']; omega)
end
section
open Go.RowKit
end
section
open Go.RowKit Go.Maps
theorem zi9 (r : Rc) (w : World) : Calls Tryz.prog 72 #[.agg #[.int .i64 r.kind, .int .i64 r.seq, .int .i64 r.addr, .int .i64 r.val]] w fun e w' => e = .returned (.bool (xk r)) ∧ Below w.heap.size w w' := by
 obtain ⟨k, s, a, v⟩ := r
 dsimp only
 have hB : Below w.heap.size w (w.alloc (.cells #[.int .i64 k, .int .i64 s, .int .i64 a, .int .i64 v] 64)) := (Below.refl _ _).alloc nl _
 have hq : Hid (∀ x, x = (decide (1 ≤ k) && decide (k ≤ 2) && (decide (1 ≤ s) && decide (s ≤ 600)) && (decide (1 ≤ a) && decide (a ≤ 6)) && (decide (0 ≤ v) && decide (v ≤ 9))) -> xk ⟨k, s, a, v⟩ = x) := by
  intro x hx
  rw [hx]
  unfold xk ze0 kj valB
  rw [Bool.eq_iff_iff]
  simp
  omega
 go_enter Tryz.func72, Tryz.ntmps72
 go_wp2_with (go_at_call 69; refine (qm _ _ _ _).mono ?_; rintro e w' ⟨rfl, rfl⟩)
 all_goals (go_ret; exact ⟨zk (hq.out _ (by simp [*])).symm, hB⟩)
def zdt (w : World) (g : Nat) (seen : List Int) : Prop := ∀ j : Nat, j < 601 -> w.cell? ⟨g, j, none⟩ = some (.bool (decide ((j : Int) ∈ seen))) ∧ w.frozen? ⟨g, j, none⟩ = false
theorem zdt.below {w w' : World} {g B : Nat} {seen : List Int} (h : zdt w g seen) (hb : Below B w w') (hg : g < B) : zdt w' g seen := fun j hj =>
 ⟨(hb.cell (p := ⟨g, j, none⟩) hg).trans (h j hj).1, (hb.frozen (p := ⟨g, j, none⟩) hg).trans (h j hj).2⟩
theorem zdt.put {w : World} {g n : Nat} {seen : List Int} (h : zdt w g seen) (hn : n < 601) : zdt (w.setCell ⟨g, n, none⟩ (.bool true)) g ((n : Int) :: seen) := fun j hj => by
 refine ⟨?_, (World.frozen?_setCell _ _ _ _).trans (h j hj).2⟩
 by_cases e : j = n
 . subst e
   rw [World.cell?_setCell_same w _ _ (h j hj).1]; simp
 . rw [World.cell?_setCell_other w _ _ _ (fun e' => e (by injection e' with _ e2 _; exact e2.symm)), (h j hj).1]
   simp [show ¬ (j : Int) = n by omega]
theorem zdt.same {w : World} {g n : Nat} {seen : List Int} (h : zdt w g seen) (hn : n < 601) (hs : ¬ (n : Int) ∈ seen) : zdt (w.setCell ⟨g, n, none⟩ (.bool false)) g seen := fun j hj => by
 refine ⟨?_, (World.frozen?_setCell _ _ _ _).trans (h j hj).2⟩
 by_cases e : j = n
 . subst e
   rw [World.cell?_setCell_same w _ _ (h j hj).1]; simp [hs]
 . rw [World.cell?_setCell_other w _ _ _ (fun e' => e (by injection e' with _ e2 _; exact e2.symm)), (h j hj).1]
end
section
open Go.RowKit Go.Maps
end
end Go.Proofs.YtclnogfmmekooaaGreat
