/- What the laws' walks share: words, plain laws, and the walks of functions, part 6. -/
import Derived.Conc.LeavingOf
import Derived.Orders
import Derived.Test.YtclnogfmmekooaaProg
import Derived.Deep.Slices
import Derived.ChangeArms
import Derived.ProofKit
import Derived.Test.YtclnogfmmekooaaY5
namespace Go.Proofs.Ytclnogfmmekooaa
set_option linter.unusedVariables false
set_option linter.unusedSimpArgs false
open Go.Conc
theorem leaving_of {H : Type} {enc : TypeId × Value → H} {a : Assume} {C : Checked} {os : Os} {f : FuncId} {fn : Func} {s : ChangeSpec} {conds : List PathCond} {apart fresh handsOn again : Bool}
 (own : ownKnob C.prog.godebug = none) (started : os.Started) (hfn : C.prog.funcs[f]? = some fn)
 (wit : ∃ (w : World) (tape : Tape) (i : Input), w.os = os ∧ (w.forCall tape i).Shaped C.prog ∧ i.vars = [] ∧ Input.okWide C.prog (w.forCall tape i) .any w.heap.size f i ∧
  s.pre6 enc C.prog fn conds apart (w.forCall tape i).memory i.args ∧ a.holds C.prog (lone (Frame.enter C.prog f i.args .normal) [] (w.forCall tape i)))
 (runs : ∀ (W : World) (base : Nat) (args : Array Value) (ds gs : List (DataW H)) (before : List MemPlace),
  (∀ (j : Nat) t v, fn.params[j]? = some t → args[j]? = some v → Value.okWide C.prog W .any base t v) → DataW.Whole enc C.prog fn.params.toList s.vars apart W args.toList ds gs before →
  ∃ M last o w' t', runNT C.prog (M + 1) (solo (G (Frame.enter C.prog f args .normal) []) W) #[] = (.ended o w', t') ∧ runN C.prog M (solo (G (Frame.enter C.prog f args .normal) []) W) = .next last ∧
    step C.prog last = .ended o w' ∧ Conc.Good C.prog (fun v W' => s.post enc C.prog fn apart fresh handsOn again W args v { W' with tape := W.tape }) last o w' t') :
 ReturnsInLeavingWide a C os f .any (s.pre6 enc C.prog fn conds apart) (s.post enc C.prog fn apart fresh handsOn again) := by
 refine returnsInLeavingWide_of_good own started wit fun w tape i _ _ _ hok hpre _ => ?_
 obtain ⟨_, _, _, fn', h1, _, _, _, _, hval⟩ := hok
 obtain rfl : fn = fn' := Option.some.inj (hfn.symm.trans h1)
 obtain ⟨⟨ds, gs, before, hw, _⟩, _⟩ := hpre
 obtain ⟨M, last, o, w', t', g1, g2, g3, g4⟩ := runs (w.forCall tape i) w.heap.size i.args ds gs before hval (DataW.Whole.of_heap (w' := w.forCall tape i) (by rfl) hw)
 refine ⟨M, last, o, w', t', g1, g2, g3, g4.mono fun v hp => ?_⟩
 have := ChangeSpec.post_blind hp
 exact this
end Go.Proofs.Ytclnogfmmekooaa
namespace Go.Proofs.Ytclnogfmmekooaa
set_option linter.unusedVariables false
set_option linter.unusedSimpArgs false
open Go.Conc Go.ConcN Go.ConcR.Gen Go.RowKit
set_option maxRecDepth 100000
set_option maxHeartbeats 4000000
section
variable {SB A : Nat → Prop} {w0 w : World} {Post : Value → World → Prop}
theorem Co.wearEachN {Gd : Option (Nat × Nat × Nat)} {ad : Option Addr} {f : List Bk} {c : Nat} {cc : Frame} {rest : List Frame} (co : Co (good Gd) SB A w0 w) (hv : VIn (good Gd) A (.slice ad 4 c)) (hf : Fl (cutW (good Gd) w) ad f) (h4 : f.length = 4) (hp4 : ∀ b ∈ f, b.pages.length = 4)
 (next : ∀ w' C W, w.heap.size ≤ W → Co (good Gd) (fun b => SB b ∨ b = W) (fun b => A b ∨ b = C) w0 w' → Bel w w' → w0.heap.size ≤ C → w'.heap[C]? = some (.cells (wears f).toArray 55) →
  Fine Try.prog Post (fun b => SB b ∨ b = W) (G (cc.finish (.slice (some ⟨C, 0, none⟩) 4 4)) rest) w') :
 Fine Try.prog Post SB (G (Frame.enter Try.prog 32 #[.slice ad 4 c] .normal) (cc :: rest)) w := by
 obtain ⟨hs, hf⟩ := hf
 have hne : f ≠ [] := by rintro rfl; simp at h4
 have hpn : ∀ b ∈ f, b.pages ≠ [] := fun b hb e => by have := hp4 b hb; rw [e] at this; simp at this
 have hin := fblk_in co.hin hv hf hne hpn
 obtain ⟨bk, off, rfl⟩ := hf.addr hne
 have hfR : Bks w (some ⟨bk, off, none⟩) f hs := ⟨hf.len, fun hn => let ⟨b, o, e, hc⟩ := hf.row hn; ⟨b, o, e, fun j u hj => ⟨cut_cell (hc j u hj).1, by rw [← cut_frozen (G := good Gd)]; exact (hc j u hj).2⟩⟩,
  fun i b x hb hx => ⟨fun hn => let ⟨b', o, e, hc⟩ := (hf.pg i b x hb hx).1 hn; ⟨b', o, e, fun j u hj => ⟨cut_cell (hc j u hj).1, by rw [← cut_frozen (G := good Gd)]; exact (hc j u hj).2⟩⟩, (hf.pg i b x hb hx).2⟩⟩
 refine Fine.wearEach hfR h4 hp4 (fun b hb => co.shun hb) (fun b hb h => (co.away b h).1 (hin b hb)) fun w' h1 h2 h3 h5 h6 => ?_
 have hb : Bel w w' := ⟨h5, h6, by omega, h2⟩
 have co' := co.keep hb
 have hdC : (cutW (good Gd) w').heap[w.heap.size + 1]? = some (.cells (wears f).toArray 55) := by
  rw [cut_other]
  · exact h3
  · intro c l hi e x
    have := co.dead c l hi e
    omega
 refine next w' (w.heap.size + 1) (w.heap.size + 3) (by omega) ⟨⟨fun r hr => ?_, co'.hin.there⟩, fun b hb' => ?_, co'.bel⟩ hb (by have := co.bel.size; omega) h3
 · rcases hr with hr | rfl
   · obtain ⟨x, hx, hxin⟩ := co'.hin.obj r hr
     exact ⟨x, hx, hxin.mono fun _ z => .inl z⟩
   · refine ⟨_, hdC, .all fun v hv => ?_⟩
     simp only [wears, List.mem_toArray, List.mem_flatMap, List.mem_cons, List.not_mem_nil, or_false] at hv
     obtain ⟨b, _, rfl | rfl⟩ := hv <;> exact .int _ _
 · rw [cut_size]
   rcases hb' with hb' | rfl
   · have := co'.away b hb'
     have h9 := co.shun hb'
     rw [cut_size] at this
     exact ⟨fun x => x.elim this.1 (fun e => by omega), this.2⟩
   · exact ⟨fun x => x.elim (fun x => by have := co.lt x; omega) (fun e => by omega), by omega⟩
end
section
variable {Gd : Option (Nat × Nat × Nat)} {SB A : Nat → Prop} {w0 w1 w : World} {C : Nat} {f : List Bk} {Post : Value → World → Prop} {cc : Frame} {rest : List Frame} {V : Nat} {cs : Array Value}
theorem Co.wearSpreadN {ad : Option Addr} {c : Nat} (co : Co (good Gd) SB A w0 w) (hv : VIn (good Gd) A (.slice ad f.length c)) (hf : Fl (cutW (good Gd) w) ad f)
 (next : ∀ w' SB' A', (∀ b, A b → A' b) → (∀ b, SB' b → SB b ∨ w0.heap.size ≤ b) → Co (good Gd) SB' A' w0 w' → Bel w w' → Fine Try.prog Post SB' (G (cc.finish (.int .i64 (if flashOk f then wHi f - wLo f else -1))) rest) w') :
 Fine Try.prog Post SB (G (Frame.enter Try.prog 14 #[.slice ad f.length c] .normal) (cc :: rest)) w := by
 rw [enter_at _ Try.func14 rfl]
 walk_nrmf Try.f14
 refine f_ctl rfl (fun w => stepG_seq) ?_
 refine f_ctl rfl (fun w => stepG_region) ?_
 simp only [List.size_toArray, List.length_cons, List.length_nil, Nat.reduceAdd, Nat.zero_add, List.range, List.range.loop]
 refine f_val (F := fun _ => True) (fun _ _ _ _ => trivial) trivial rfl rfl (by k_ne) (fun w hw => ⟨run_eq_of (fun K hK => by skip; go_simp; exact hK), by skip; rw [listed_nil (by simp [go_sem, ev_min2, ev_max2, *])]; simp⟩) ?_
 walk_nrm
 refine f_ctl rfl (fun w => stepG_region_end) ?_
 refine f_ctl rfl (fun w => stepG_seq) ?_
 refine f_ctl rfl (fun w => stepG_seq) ?_
 refine f_ctl rfl (fun w => stepG_region) ?_
 simp only [List.size_toArray, List.length_cons, List.length_nil, Nat.reduceAdd, Nat.zero_add, List.range, List.range.loop]
 refine f_val (F := fun _ => True) (fun _ _ _ _ => trivial) trivial rfl rfl (by k_ne) (fun w hw => ⟨run_eq_of (fun K hK => by skip; go_simp; exact hK), by skip; rw [listed_nil (by simp [go_sem, ev_min2, ev_max2, *])]; simp⟩) ?_
 walk_nrm
 refine f_enter rfl rfl (by k_ne) rfl Try.func31 rfl rfl ?_
 walk_nrm
 refine co.call (R := fun v _ => v = .bool (flashOk f)) (fun _ _ _ _ h => h) (by kernel_rfl) (fun v hx => by simp at hx; subst hx; exact hv) (fun T d => (impl_FlashOk f ad c (Go.Proofs.Ytclnogfmmekooaa.tp (cutW (good Gd) w) T d) (hf.bel (Bel.tp _ T d))).mono fun e w' ⟨h1, h2⟩ => ⟨_, h1, rfl, h2⟩) ?_
 intro A1 v w1 hA co1 hb1 _ hv1
 subst hv1
 rw [Frame.finish_at]
 walk_nrm
 refine f_val (F := fun _ => True) (fun _ _ _ _ => trivial) trivial rfl rfl (by k_ne) (fun w hw => ⟨run_eq_of (fun K hK => by skip; go_simp; exact hK), by skip; rw [listed_nil (by simp [go_sem, ev_min2, ev_max2, *])]; simp⟩) ?_
 walk_nrm
 refine f_ctl rfl (fun w => stepG_region_end) ?_
 cases hok : flashOk f with
 | false =>
   refine f_ctl rfl (fun w => stepG_cond (t := true) (by simp [Act.eval, hok])) ?_
   simp only [if_true, Bool.false_eq_true, if_false]
   refine f_ctl rfl (fun w => stepG_seq) ?_
   refine f_ctl rfl (fun w => stepG_region) ?_
   simp only [List.size_toArray, List.length_cons, List.length_nil, Nat.reduceAdd, Nat.zero_add, List.range, List.range.loop]
   refine f_val (F := fun _ => True) (fun _ _ _ _ => trivial) trivial rfl rfl (by k_ne) (fun w hw => ⟨run_eq_of (fun K hK => by skip; go_simp; exact hK), by skip; rw [listed_nil (by simp [go_sem, ev_min2, ev_max2, *])]; simp⟩) ?_
   walk_nrm
   refine f_ctl rfl (fun w => stepG_region_end) ?_
   refine f_ctl rfl (fun w => stepG_ret') ?_
   refine f_leave rfl rfl Try.func14 (fun w => ⟨?_, ?_⟩) (v := .int .i64 (-1)) ?_
   · simp [results, Try.f14, go_sem]
   · rw [show (results Try.f14 _).events Try.prog w #[] = #[] by simp [results, Try.f14, go_sem]]
     rfl
   · have := next w1 SB A1 hA (fun _ h => .inl h) co1 hb1
     rw [hok] at this
     simpa using this
 | true =>
   have h4 := (flash_four hok).1
   rw [h4] at hv ⊢
   refine f_ctl rfl (fun w => stepG_cond (t := false) (by simp [Act.eval, hok])) ?_
   simp only [if_true, Bool.false_eq_true, if_false]
   refine f_ctl rfl (fun w => stepG_skip) ?_
   refine f_ctl rfl (fun w => stepG_seq) ?_
   refine f_ctl rfl (fun w => stepG_region) ?_
   simp only [List.size_toArray, List.length_cons, List.length_nil, Nat.reduceAdd, Nat.zero_add, List.range, List.range.loop]
   refine f_val (F := fun _ => True) (fun _ _ _ _ => trivial) trivial rfl rfl (by k_ne) (fun w hw => ⟨run_eq_of (fun K hK => by skip; go_simp; exact hK), by skip; rw [listed_nil (by simp [go_sem, ev_min2, ev_max2, *])]; simp⟩) ?_
   walk_nrm
   refine f_val (F := fun _ => True) (fun _ _ _ _ => trivial) trivial rfl rfl (by k_ne) (fun w hw => ⟨run_eq_of (fun K hK => by skip; go_simp; exact hK), by skip; rw [listed_nil (by simp [go_sem, ev_min2, ev_max2, *])]; simp⟩) ?_
   walk_nrm
   refine f_ctl rfl (fun w => stepG_region_end) ?_
   refine f_ctl rfl (fun w => stepG_seq) ?_
   refine f_ctl rfl (fun w => stepG_seq) ?_
   refine f_ctl rfl (fun w => stepG_region) ?_
   simp only [List.size_toArray, List.length_cons, List.length_nil, Nat.reduceAdd, Nat.zero_add, List.range, List.range.loop]
   refine f_val (F := fun _ => True) (fun _ _ _ _ => trivial) trivial rfl rfl (by k_ne) (fun w hw => ⟨run_eq_of (fun K hK => by skip; go_simp; exact hK), by skip; rw [listed_nil (by simp [go_sem, ev_min2, ev_max2, *])]; simp⟩) ?_
   walk_nrm
   refine f_enter rfl rfl (by k_ne) rfl Try.func32 rfl rfl ?_
   walk_nrm
   refine Co.wearEachN co1 (hv.mono hA) (hf.bel hb1.cut) h4 (fun b hb => ((flash_four hok).2 b hb).1) ?_
   intro w2 C W hWn co2 hb2 hC hcell
   rw [Frame.finish_at]
   walk_nrm
   refine f_val (F := fun _ => True) (fun _ _ _ _ => trivial) trivial rfl rfl (by k_ne) (fun w hw => ⟨run_eq_of (fun K hK => by skip; go_simp; exact hK), by skip; rw [listed_nil (by simp [go_sem, ev_min2, ev_max2, *])]; simp⟩) ?_
   walk_nrm
   refine f_val (F := fun _ => True) (fun _ _ _ _ => trivial) trivial rfl rfl (by k_ne) (fun w hw => ⟨run_eq_of (fun K hK => by skip; go_simp; exact hK), by skip; rw [listed_nil (by simp [go_sem, ev_min2, ev_max2, *])]; simp⟩) ?_
   walk_nrm
   refine f_ctl rfl (fun w => stepG_region_end) ?_
   refine f_ctl rfl (fun w => stepG_block) ?_
   refine f_ctl rfl (fun w => stepG_loop) ?_
   have hW : Wk Gd (fun b => SB b ∨ b = W) (fun b => A1 b ∨ b = C) w0 w2 C f w2 := ⟨co2, .refl w2, hcell, .inr rfl⟩
   have hl := fun T w => wSpreadLoop (Gd := Gd) (SB := fun b => SB b ∨ b = W) (A := fun b => A1 b ∨ b = C) (w0 := w0) (w1 := w2) (C := C) (Post := Post) (cc := cc) (rest := rest) hok (fun w3 hW3 => by
    have := next w3 _ _ (fun b hb => .inl (hA b hb)) (fun b hb => hb.imp id (fun e => by have := co1.bel.size; omega)) hW3.co (hb1.trans (hb2.trans hW3.bel))
    rw [hok] at this
    simpa using this) 4 0 T w rfl
   simp only [wSpreadB, wSpreadT, Try.f14] at hl
   exact hl _ w2 rfl rfl rfl rfl rfl rfl hW

theorem Co.wearLostN {ad : Option Addr} {c : Nat} (co : Co (good Gd) SB A w0 w) (hv : VIn (good Gd) A (.slice ad f.length c)) (hf : Fl (cutW (good Gd) w) ad f)
 (next : ∀ w' SB' A', (∀ b, A b → A' b) → (∀ b, SB' b → SB b ∨ w0.heap.size ≤ b) → Co (good Gd) SB' A' w0 w' → Bel w w' → Fine Try.prog Post SB' (G (cc.finish (.int .i64 (if flashOk f then wTorn f else -1))) rest) w') :
 Fine Try.prog Post SB (G (Frame.enter Try.prog 17 #[.slice ad f.length c] .normal) (cc :: rest)) w := by
 rw [enter_at _ Try.func17 rfl]
 walk_nrmf Try.f17
 refine f_ctl rfl (fun w => stepG_seq) ?_
 refine f_ctl rfl (fun w => stepG_region) ?_
 simp only [List.size_toArray, List.length_cons, List.length_nil, Nat.reduceAdd, Nat.zero_add, List.range, List.range.loop]
 refine f_val (F := fun _ => True) (fun _ _ _ _ => trivial) trivial rfl rfl (by k_ne) (fun w hw => ⟨run_eq_of (fun K hK => by skip; go_simp; exact hK), by skip; rw [listed_nil (by simp [go_sem, ev_min2, ev_max2, *])]; simp⟩) ?_
 walk_nrm
 refine f_ctl rfl (fun w => stepG_region_end) ?_
 refine f_ctl rfl (fun w => stepG_seq) ?_
 refine f_ctl rfl (fun w => stepG_seq) ?_
 refine f_ctl rfl (fun w => stepG_region) ?_
 simp only [List.size_toArray, List.length_cons, List.length_nil, Nat.reduceAdd, Nat.zero_add, List.range, List.range.loop]
 refine f_val (F := fun _ => True) (fun _ _ _ _ => trivial) trivial rfl rfl (by k_ne) (fun w hw => ⟨run_eq_of (fun K hK => by skip; go_simp; exact hK), by skip; rw [listed_nil (by simp [go_sem, ev_min2, ev_max2, *])]; simp⟩) ?_
 walk_nrm
 refine f_enter rfl rfl (by k_ne) rfl Try.func31 rfl rfl ?_
 walk_nrm
 refine co.call (R := fun v _ => v = .bool (flashOk f)) (fun _ _ _ _ h => h) (by kernel_rfl) (fun v hx => by simp at hx; subst hx; exact hv) (fun T d => (impl_FlashOk f ad c (Go.Proofs.Ytclnogfmmekooaa.tp (cutW (good Gd) w) T d) (hf.bel (Bel.tp _ T d))).mono fun e w' ⟨h1, h2⟩ => ⟨_, h1, rfl, h2⟩) ?_
 intro A1 v w1 hA co1 hb1 _ hv1
 subst hv1
 rw [Frame.finish_at]
 walk_nrm
 refine f_val (F := fun _ => True) (fun _ _ _ _ => trivial) trivial rfl rfl (by k_ne) (fun w hw => ⟨run_eq_of (fun K hK => by skip; go_simp; exact hK), by skip; rw [listed_nil (by simp [go_sem, ev_min2, ev_max2, *])]; simp⟩) ?_
 walk_nrm
 refine f_ctl rfl (fun w => stepG_region_end) ?_
 cases hok : flashOk f with
 | false =>
   refine f_ctl rfl (fun w => stepG_cond (t := true) (by simp [Act.eval, hok])) ?_
   simp only [if_true, Bool.false_eq_true, if_false]
   refine f_ctl rfl (fun w => stepG_seq) ?_
   refine f_ctl rfl (fun w => stepG_region) ?_
   simp only [List.size_toArray, List.length_cons, List.length_nil, Nat.reduceAdd, Nat.zero_add, List.range, List.range.loop]
   refine f_val (F := fun _ => True) (fun _ _ _ _ => trivial) trivial rfl rfl (by k_ne) (fun w hw => ⟨run_eq_of (fun K hK => by skip; go_simp; exact hK), by skip; rw [listed_nil (by simp [go_sem, ev_min2, ev_max2, *])]; simp⟩) ?_
   walk_nrm
   refine f_ctl rfl (fun w => stepG_region_end) ?_
   refine f_ctl rfl (fun w => stepG_ret') ?_
   refine f_leave rfl rfl Try.func17 (fun w => ⟨?_, ?_⟩) (v := .int .i64 (-1)) ?_
   · simp [results, Try.f17, go_sem]
   · rw [show (results Try.f17 _).events Try.prog w #[] = #[] by simp [results, Try.f17, go_sem]]
     rfl
   · have := next w1 SB A1 hA (fun _ h => .inl h) co1 hb1
     rw [hok] at this
     simpa using this
 | true =>
   have h4 := (flash_four hok).1
   rw [h4] at hv ⊢
   refine f_ctl rfl (fun w => stepG_cond (t := false) (by simp [Act.eval, hok])) ?_
   simp only [if_true, Bool.false_eq_true, if_false]
   refine f_ctl rfl (fun w => stepG_skip) ?_
   refine f_ctl rfl (fun w => stepG_seq) ?_
   refine f_ctl rfl (fun w => stepG_region) ?_
   simp only [List.size_toArray, List.length_cons, List.length_nil, Nat.reduceAdd, Nat.zero_add, List.range, List.range.loop]
   refine f_val (F := fun _ => True) (fun _ _ _ _ => trivial) trivial rfl rfl (by k_ne) (fun w hw => ⟨run_eq_of (fun K hK => by skip; go_simp; exact hK), by skip; rw [listed_nil (by simp [go_sem, ev_min2, ev_max2, *])]; simp⟩) ?_
   walk_nrm
   refine f_ctl rfl (fun w => stepG_region_end) ?_
   refine f_ctl rfl (fun w => stepG_seq) ?_
   refine f_ctl rfl (fun w => stepG_seq) ?_
   refine f_ctl rfl (fun w => stepG_region) ?_
   simp only [List.size_toArray, List.length_cons, List.length_nil, Nat.reduceAdd, Nat.zero_add, List.range, List.range.loop]
   refine f_val (F := fun _ => True) (fun _ _ _ _ => trivial) trivial rfl rfl (by k_ne) (fun w hw => ⟨run_eq_of (fun K hK => by skip; go_simp; exact hK), by skip; rw [listed_nil (by simp [go_sem, ev_min2, ev_max2, *])]; simp⟩) ?_
   walk_nrm
   refine f_enter rfl rfl (by k_ne) rfl Try.func32 rfl rfl ?_
   walk_nrm
   refine Co.wearEachN co1 (hv.mono hA) (hf.bel hb1.cut) h4 (fun b hb => ((flash_four hok).2 b hb).1) ?_
   intro w2 C W hWn co2 hb2 hC hcell
   rw [Frame.finish_at]
   walk_nrm
   refine f_val (F := fun _ => True) (fun _ _ _ _ => trivial) trivial rfl rfl (by k_ne) (fun w hw => ⟨run_eq_of (fun K hK => by skip; go_simp; exact hK), by skip; rw [listed_nil (by simp [go_sem, ev_min2, ev_max2, *])]; simp⟩) ?_
   walk_nrm
   refine f_val (F := fun _ => True) (fun _ _ _ _ => trivial) trivial rfl rfl (by k_ne) (fun w hw => ⟨run_eq_of (fun K hK => by skip; go_simp; exact hK), by skip; rw [listed_nil (by simp [go_sem, ev_min2, ev_max2, *])]; simp⟩) ?_
   walk_nrm
   refine f_ctl rfl (fun w => stepG_region_end) ?_
   refine f_ctl rfl (fun w => stepG_block) ?_
   refine f_ctl rfl (fun w => stepG_loop) ?_
   have hW : Wk Gd (fun b => SB b ∨ b = W) (fun b => A1 b ∨ b = C) w0 w2 C f w2 := ⟨co2, .refl w2, hcell, .inr rfl⟩
   have hl := fun T w => wLostLoop (Gd := Gd) (SB := fun b => SB b ∨ b = W) (A := fun b => A1 b ∨ b = C) (w0 := w0) (w1 := w2) (C := C) (Post := Post) (cc := cc) (rest := rest) hok (fun w3 hW3 => by
    have := next w3 _ _ (fun b hb => .inl (hA b hb)) (fun b hb => hb.imp id (fun e => by have := co1.bel.size; omega)) hW3.co (hb1.trans (hb2.trans hW3.bel))
    rw [hok] at this
    simpa using this) 4 0 T w rfl
   simp only [wLostB, wLostT, Try.f17] at hl
   exact hl _ w2 rfl rfl rfl rfl rfl hW
end
end Go.Proofs.Ytclnogfmmekooaa
namespace Go.Proofs.Ytclnogfmmekooaa
set_option linter.unusedVariables false
set_option linter.unusedSimpArgs false
open Go.Conc Go.ConcN Go.ConcR.Gen Go.RowKit
theorem cons_of_len {α : Type} {l : List α} {n : Nat} (h : l.length = n + 1) : ∃ a t, l = a :: t ∧ t.length = n := by
 cases l with
 | nil => simp at h
 | cons a t => exact ⟨a, t, rfl, by simpa using h⟩
section
variable {P : Program} {Post : Value → World → Prop} {SB : Nat → Prop} {b : Frame} {k : List Item} {cs : List Frame} {w : World} {ops : Array Oper} {F : World → Prop} {id : Nat}
/-- An operation that gives a value and touches nothing. -/
theorem f_op {a : Act} {j : Nat} {rest : List Nat} {o : Oper} {v : Value} (ho : ops[j]? = some o) (hw : Region.wanted o (yielded ops a.tmps) = true) (hk : b.kind ≠ .early)
 (hrun : ∀ w, (execOp a.eval o).run P w = .ok (.value v) w ∧ listed P b.fn a o w = #[])
 (next : Fine P Post SB (G (b.at (a.put o.dst v) (.inRegion ops rest :: k)) cs) w) : Fine P Post SB (G (b.at a (.inRegion ops (j :: rest) :: k)) cs) w :=
 f_val (F := fun _ => True) (fun _ _ _ _ => trivial) trivial ho hw hk (fun w _ => ⟨(hrun w).1, by rw [(hrun w).2]; simp⟩) next
end
end Go.Proofs.Ytclnogfmmekooaa
namespace Go.Proofs.Ytclnogfmmekooaa
set_option linter.unusedVariables false
set_option linter.unusedSimpArgs false
open Go.RowKit Go.Maps
set_option maxHeartbeats 400000
theorem laws_toRec (r : Rc) (w : World) : Calls Try.prog 89 #[.agg #[.int .i64 r.kind, .int .i64 r.seq, .int .i64 r.addr, .int .i64 r.val]] w fun e w' => e = .returned (.agg #[.int .i64 r.kind, .int .i64 r.seq, .int .i64 r.addr, .int .i64 r.val]) ∧ Below w.heap.size w w' := by
 obtain ⟨k, q, a, v⟩ := r
 dsimp only
 go_enter Try.func89, Try.ntmps89
 go_wp2
 refine bodyPost_ret (v := .agg #[.int .i64 k, .int .i64 q, .int .i64 a, .int .i64 v]) (by simp [results, Try.results89, go_sem]) rfl ⟨rfl, ?_⟩
 (repeat (first | (with_reducible exact Below.refl _ _) | (with_reducible assumption) | (refine Below.setCell ?_ (by first | omega | exact hB.size | exact hb.size | (have h := hB.size; simp; omega) | (have h := hb.size; simp; omega) | (simp; omega) | simp) _) | (refine Below.alloc ?_ (by first | omega | exact hB.size | exact hb.size | (have h := hB.size; simp; omega) | (have h := hb.size; simp; omega) | (simp; omega) | simp) _) | (refine Below.drew ?_)))
theorem laws_toPage (p : Pg) (w : World) : Calls Try.prog 66 #[.agg #[.int .i64 p.state, .int .i64 p.rc.kind, .int .i64 p.rc.seq, .int .i64 p.rc.addr, .int .i64 p.rc.val]] w fun e w' => e = .returned (.agg #[.int .i64 p.state, .int .i64 p.rc.kind, .int .i64 p.rc.seq, .int .i64 p.rc.addr, .int .i64 p.rc.val]) ∧ Below w.heap.size w w' := by
 obtain ⟨st, ⟨k, q, a, v⟩⟩ := p
 dsimp only
 go_enter Try.func66, Try.ntmps66
 go_wp2_with fail
 refine (laws_toRec ⟨k, q, a, v⟩ _).mono ?_
 rintro e w1 ⟨rfl, hb⟩
 obtain ⟨hc, hf⟩ := bcell hb
 have hz : w.heap.size + 1 + 1 < w1.heap.size := by have := hb.size; simp at this; omega
 have hB : Below w.heap.size w w1 := Below.trans (by (repeat (first | (with_reducible exact Below.refl _ _) | (with_reducible assumption) | (refine Below.setCell ?_ (by first | omega | exact hB.size | exact hb.size | (have h := hB.size; simp; omega) | (have h := hb.size; simp; omega) | (simp; omega) | simp) _) | (refine Below.alloc ?_ (by first | omega | exact hB.size | exact hb.size | (have h := hB.size; simp; omega) | (have h := hb.size; simp; omega) | (simp; omega) | simp) _) | (refine Below.drew ?_)))) (hb.mono (by simp; omega))
 clear hb
 go_wp2
 refine bodyPost_ret (v := .agg #[.int .i64 st, .int .i64 k, .int .i64 q, .int .i64 a, .int .i64 v]) (by simp [results, Try.results66, go_sem, hc, hz]) rfl ⟨rfl, ?_⟩
 (repeat (first | (with_reducible exact Below.refl _ _) | (with_reducible assumption) | (refine Below.setCell ?_ (by first | omega | exact hB.size | exact hb.size | (have h := hB.size; simp; omega) | (have h := hb.size; simp; omega) | (simp; omega) | simp) _) | (refine Below.alloc ?_ (by first | omega | exact hB.size | exact hb.size | (have h := hB.size; simp; omega) | (have h := hb.size; simp; omega) | (simp; omega) | simp) _) | (refine Below.drew ?_)))
end Go.Proofs.Ytclnogfmmekooaa
namespace Go.Proofs.Ytclnogfmmekooaa
set_option linter.unusedVariables false
set_option linter.unusedSimpArgs false
open Go.RowKit Go.Maps
set_option maxHeartbeats 400000
/-- a count goes down, -1 if below nought -/
def down (left : Int) (n : Nat) : Int := if left - n < 0 then -1 else left - n
def szGo : Int → List Bk → Int
 | left, [] => left
 | left, b :: f => if down left b.pages.length < 0 then -1 else szGo (down left b.pages.length) f
def szFl (left : Int) (f : List Bk) : Int := if left - f.length < 0 then -1 else szGo (left - f.length) f
theorem szGo_small : ∀ (f : List Bk) (left : Int), 0 ≤ szGo left f → left ≤ 1048576 → ∀ b ∈ f, b.pages.length ≤ 1048576
 | [], _, _, _ => by simp
 | b :: f, left, h, hl => by
   unfold szGo at h
   by_cases h1 : down left b.pages.length < 0
   · rw [if_pos h1] at h; omega
   · rw [if_neg h1] at h
     have hd : down left b.pages.length = left - b.pages.length := by
      unfold down at h1 ⊢
      by_cases h2 : left - (b.pages.length : Int) < 0
      · rw [if_pos h2] at h1; omega
      · rw [if_neg h2]
     have ih := szGo_small f _ h (by omega)
     intro c hc
     rcases List.mem_cons.1 hc with rfl | hc
     · omega
     · exact ih c hc
theorem szFl_small {f : List Bk} (h : 0 ≤ szFl 1048576 f) : f.length ≤ 1048576 ∧ ∀ b ∈ f, b.pages.length ≤ 1048576 := by
 unfold szFl at h
 by_cases h0 : (1048576 : Int) - f.length < 0
 · rw [if_pos h0] at h; omega
 · rw [if_neg h0] at h
   exact ⟨by omega, szGo_small f _ h (by omega)⟩
end Go.Proofs.Ytclnogfmmekooaa
namespace Go.Proofs.Ytclnogfmmekooaa
set_option linter.unusedVariables false
set_option linter.unusedSimpArgs false
open Go.Conc Go.ConcN Go.ConcR.Gen Go.RowKit
set_option maxRecDepth 100000
set_option maxHeartbeats 8000000
/-- What is held; what is shunned is new. -/
structure Xc (SB A : Nat → Prop) (w0 w : World) : Prop where
 co : Co (good none) SB A w0 w
 sb : ∀ b, SB b → w0.heap.size ≤ b
theorem cutN (w : World) : cutW (good none) w = w := cutW_none rfl w
section
variable {SB A A' : Nat → Prop} {w0 w1 w : World} {Post : Value → World → Prop} {cc : Frame} {rest : List Frame}
theorem Xc.tp (w : World) (T : Nat → Question → Nat) (d : Nat) (h : Xc SB A w0 w) : Xc SB A w0 (Go.Proofs.Ytclnogfmmekooaa.tp w T d) := ⟨h.co.tp T d, h.sb⟩
theorem Xc.old (h : Xc SB A w0 w) {b : Nat} (hb : b < w0.heap.size) : ¬ SB b ∧ b < w.heap.size := ⟨fun x => by have := h.sb b x; omega, by have := h.co.bel.size; omega⟩
theorem Xc.inn (h : Xc SB A w0 w) {b : Nat} (hb : A b) : ¬ SB b ∧ b < w.heap.size := ⟨fun x => (h.co.away b x).1 hb, h.co.lt hb⟩
theorem Xc.push (h : Xc SB A w0 w) (o : Obj) : Xc SB A w0 { w with heap := w.heap.push o } := ⟨h.co.push o, h.sb⟩
theorem Xc.pushIn (h : Xc SB A w0 w) {o : Obj} (ho : ∀ r, OIn Try.prog (good none) A r o) : Xc SB (fun b => A b ∨ b = w.heap.size) w0 { w with heap := w.heap.push o } := by
 have hh := h.co.hin
 rw [cutN] at hh
 refine ⟨⟨by rw [cutN]; exact hh.push ho, fun b hb => ?_, h.co.bel.trans ⟨rfl, rfl, by simp, fun b hb => getElem?_push_old _ _ hb⟩⟩, h.sb⟩
 have h1 := h.co.away b hb
 rw [cutN] at h1 ⊢
 exact ⟨fun x => x.elim h1.1 (fun e => by omega), by simp; omega⟩
theorem Xc.setIn (h : Xc SB A w0 w) {g : Nat} (j : Nat) {v : Value} (hv : VIn (good none) A v) (hg : w0.heap.size ≤ g) : Xc SB A w0 (w.setCell ⟨g, j, none⟩ v) := by
 have hh := h.co.hin
 rw [cutN] at hh
 refine ⟨⟨by rw [cutN]; exact hh.setCell _ hv, fun b hb => ?_, h.co.bel.more (by simp [World.setCell]) rfl rfl fun x hx => Below.heap_setCell _ ⟨g, j, none⟩ v x (by show x ≠ g; omega)⟩, h.sb⟩
 have h1 := h.co.away b hb
 rw [cutN] at h1 ⊢
 exact ⟨h1.1, by simp [World.setCell]; exact h1.2⟩
theorem Xc.setOut (h : Xc SB A w0 w) {g : Nat} (j : Nat) (v : Value) (hA : ¬ A g) (hg : w0.heap.size ≤ g) : Xc SB A w0 (w.setCell ⟨g, j, none⟩ v) := ⟨h.co.setCell j v hA hg, h.sb⟩
/-- What a piece leaves. -/
structure Nx (SB A A' : Nat → Prop) (w0 w w' : World) : Prop where
 grow : ∀ b, A b → A' b
 fresh : ∀ b, A' b → A b ∨ w.heap.size ≤ b
 xc : Xc SB A' w0 w'
 bel : Bel w w'
theorem Nx.refl (h : Xc SB A w0 w) : Nx SB A A w0 w w := ⟨fun _ h => h, fun _ h => .inl h, h, .refl w⟩
theorem Nx.trans {A'' : Nat → Prop} {w' w'' : World} (h : Nx SB A A' w0 w w') (k : Nx SB A' A'' w0 w' w'') : Nx SB A A'' w0 w w'' :=
 ⟨fun b x => k.grow b (h.grow b x), fun b x => (k.fresh b x).elim (h.fresh b) (fun y => .inr (Nat.le_trans h.bel.size y)), k.xc, h.bel.trans k.bel⟩
theorem Nx.push (h : Nx SB A A' w0 w w1) (o : Obj) : Nx SB A A' w0 w { w1 with heap := w1.heap.push o } := ⟨h.grow, h.fresh, h.xc.push o, h.bel.trans ⟨rfl, rfl, by simp, fun b hb => getElem?_push_old _ _ hb⟩⟩
/-- A lone contract. -/
theorem Xc.call {f : FuncId} {args : Array Value} {R : Value → World → Prop} (h : Xc SB A w0 w) (hR : ∀ v w T d, R v (Go.Proofs.Ytclnogfmmekooaa.tp w T d) → R v w) (hf : goodF f = true) (ha : ∀ v ∈ args, VIn (good none) A v)
 (hc : ∀ T d, Calls Try.prog f args (Go.Proofs.Ytclnogfmmekooaa.tp w T d) fun e w' => ∃ v, e = .returned v ∧ R v w' ∧ Below w.heap.size (Go.Proofs.Ytclnogfmmekooaa.tp w T d) w')
 (next : ∀ A' v w', Nx SB A A' w0 w w' → VIn (good none) A' v → R v w' → Fine Try.prog Post SB (G (cc.finish v) rest) w') : Fine Try.prog Post SB (G (Frame.enter Try.prog f args .normal) (cc :: rest)) w := by
 refine Fine.call (P := Try.prog) (G := good none) (A := A) (wR := w) (cleanP none) (Q := fun v w' => R v w' ∧ Bel w w') hf ha h.co.hin h.co.away (fun v w T d h => ⟨hR v w T d h.1, ⟨h.2.os, h.2.output, h.2.size, h.2.block⟩⟩) (fun T d => by rw [cutN]; exact (hc T d).mono fun e w' ⟨v, h1, h2, h3⟩ => ⟨v, h1, h2, ⟨h3.os, h3.output, h3.size, h3.block⟩⟩) ?_
 intro A' v w' ht hk hh hv hq
 rw [cutN] at hq
 have hfr : ∀ b, A' b → A b ∨ w.heap.size ≤ b := fun b hb => by have := hk.fresh b hb; rwa [cut_size] at this
 exact next A' v w' ⟨hk.grow, hfr, ⟨⟨hh, h.co.away.kept hk, h.co.bel.trans hq.2⟩, h.sb⟩, hq.2⟩ hv hq.1
theorem f_leaveC {P : Program} {F : World → Prop} {b c : Frame} {a : Act} {cs : List Frame} {v : Value} {todo : List Item} {fn : Func} (hT : ∀ w T d, F w → F (Go.Proofs.Ytclnogfmmekooaa.tp w T d)) (hF : F w) (hn : b.kind = .normal) (hd : a.defers = []) (hf : P.funcs[b.fn]? = some fn)
 (hrun : ∀ w, F w → (results fn a.tmps).run P w = .ok v w ∧ ∀ e ∈ seen P b.fn ((results fn a.tmps).events P w #[]), EvF SB w.heap.size e) (next : Fine P Post SB (G (c.finish v) cs) w) : Fine P Post SB (G { b.at a todo with mode := .returning } (c :: cs)) w :=
 Fine.step rfl fun T d => by
  obtain ⟨h1, h2⟩ := hrun _ (hT w T d hF)
  refine ⟨G (c.finish v) cs, Go.Proofs.Ytclnogfmmekooaa.tp w T d, seen P b.fn ((results fn a.tmps).events P (Go.Proofs.Ytclnogfmmekooaa.tp w T d) #[]), ?_, Nat.le_refl _, h2, next.tp T d⟩
  simp [G, stepG, unwind, doReturn, Frame.at, hn, hd, hf, Sem.runT_eq, h1, GStep.after]
/-- A block of one's own. -/
structure Ob (SB : Nat → Prop) (V : Nat) (cs : Array Value) (t : TypeId) (w : World) : Prop where
 at_ : w.heap[V]? = some (.cells cs t)
 nsb : ¬ SB V
theorem Ob.tp {V : Nat} {cs : Array Value} {t : TypeId} (w : World) (T : Nat → Question → Nat) (d : Nat) (h : Ob SB V cs t w) : Ob SB V cs t (Go.Proofs.Ytclnogfmmekooaa.tp w T d) := ⟨h.at_, h.nsb⟩
theorem Ob.lt {V : Nat} {cs : Array Value} {t : TypeId} (h : Ob SB V cs t w) : V < w.heap.size := (Array.getElem?_eq_some_iff.1 h.at_).1
theorem Ob.cell {V : Nat} {cs : Array Value} {t : TypeId} (h : Ob SB V cs t w) (j : Nat) : w.cell? ⟨V, j, none⟩ = cs[j]? := by simp [World.cell?, h.at_]
theorem x_szPageS {ad : Option Addr} {n c : Nat} {left : Int} (h1 : -1 ≤ left) (h2 : left ≤ 1048576) (hn : n ≤ 9223372036854775807) (next : Fine Try.prog Post SB (G (cc.finish (.int .i64 (down left n))) rest) w) : Fine Try.prog Post SB (G (Frame.enter Try.prog 46 #[.slice ad n c, .int .i64 left] .normal) (cc :: rest)) w := by
 have hwr : IntKind.i64.wrap (left - (n : Int)) = left - (n : Int) := by rw [IntKind.wrap_i64]; omega
 rw [enter_at _ Try.func46 rfl]
 walk_nrmf Try.f46
 refine f_ctl rfl (fun w => stepG_seq) ?_
 refine f_ctl rfl (fun w => stepG_region) ?_
 simp only [List.size_toArray, List.length_cons, List.length_nil, Nat.reduceAdd, Nat.zero_add, List.range, List.range.loop]
 refine f_op rfl rfl (by k_ne) (fun w => ⟨run_eq_of (fun K hK => by go_simp; exact hK), listed_nil (by simp [go_sem, ev_min2, ev_max2, *])⟩) ?_
 walk_nrm
 refine f_ctl rfl (fun w => stepG_region_end) ?_
 refine f_ctl rfl (fun w => stepG_seq) ?_
 refine f_ctl rfl (fun w => stepG_region) ?_
 simp only [List.size_toArray, List.length_cons, List.length_nil, Nat.reduceAdd, Nat.zero_add, List.range, List.range.loop]
 refine f_op rfl rfl (by k_ne) (fun w => ⟨run_eq_of (fun K hK => by go_simp; exact hK), listed_nil (by simp [go_sem, ev_min2, ev_max2, *])⟩) ?_
 walk_nrm
 refine f_op rfl rfl (by k_ne) (fun w => ⟨run_eq_of (fun K hK => by go_simp; exact hK), listed_nil (by simp [go_sem, ev_min2, ev_max2, *])⟩) ?_
 walk_nrm
 refine f_op rfl rfl (by k_ne) (fun w => ⟨run_eq_of (fun K hK => by go_simp; exact hK), listed_nil (by simp [go_sem, ev_min2, ev_max2, *])⟩) ?_
 walk_nrm
 refine f_op (v := .int .i64 (left - n)) rfl rfl (by k_ne) (fun w => ⟨run_eq_of (fun K hK => by have h1 := hwr; go_simp; exact hK), listed_nil (by have h1 := hwr; simp [go_sem, ev_min2, ev_max2, *])⟩) ?_
 walk_nrm
 refine f_op rfl rfl (by k_ne) (fun w => ⟨run_eq_of (fun K hK => by go_simp; exact hK), listed_nil (by simp [go_sem, ev_min2, ev_max2, *])⟩) ?_
 walk_nrm
 refine f_ctl rfl (fun w => stepG_region_end) ?_
 refine f_ctl rfl (fun w => stepG_seq) ?_
 refine f_ctl rfl (fun w => stepG_seq) ?_
 refine f_ctl rfl (fun w => stepG_region) ?_
 simp only [List.size_toArray, List.length_cons, List.length_nil, Nat.reduceAdd, Nat.zero_add, List.range, List.range.loop]
 refine f_op rfl rfl (by k_ne) (fun w => ⟨run_eq_of (fun K hK => by go_simp; exact hK), listed_nil (by simp [go_sem, ev_min2, ev_max2, *])⟩) ?_
 walk_nrm
 by_cases hlt : left - (n : Int) < 0
 · skip
   refine f_op (v := .bool true) rfl rfl (by k_ne) (fun w => ⟨run_eq_of (fun K hK => by have h1 := hlt; go_simp; exact hK), listed_nil (by have h1 := hlt; simp [go_sem, ev_min2, ev_max2, *])⟩) ?_
   walk_nrm
   refine f_ctl rfl (fun w => stepG_region_end) ?_
   refine f_ctl rfl (fun w => stepG_cond (t := true) (by simp [Act.eval])) ?_
   simp only [if_true, Bool.false_eq_true, if_false]
   refine f_ctl rfl (fun w => stepG_seq) ?_
   refine f_ctl rfl (fun w => stepG_region) ?_
   simp only [List.size_toArray, List.length_cons, List.length_nil, Nat.reduceAdd, Nat.zero_add, List.range, List.range.loop]
   refine f_op rfl rfl (by k_ne) (fun w => ⟨run_eq_of (fun K hK => by go_simp; exact hK), listed_nil (by simp [go_sem, ev_min2, ev_max2, *])⟩) ?_
   walk_nrm
   refine f_ctl rfl (fun w => stepG_region_end) ?_
   refine f_ctl rfl (fun w => stepG_ret') ?_
   refine f_leave rfl rfl Try.func46 (fun w => ⟨?_, ?_⟩) (v := .int .i64 (-1)) ?_
   · simp [results, Try.f46, go_sem]
   · rw [show (results Try.f46 _).events Try.prog w #[] = #[] by simp [results, Try.f46, go_sem]]
     rfl
   · rw [show down left n = -1 from if_pos hlt] at next; exact next
 · skip
   refine f_op (v := .bool false) rfl rfl (by k_ne) (fun w => ⟨run_eq_of (fun K hK => by have h1 := hlt; go_simp; exact hK), listed_nil (by have h1 := hlt; simp [go_sem, ev_min2, ev_max2, *])⟩) ?_
   walk_nrm
   refine f_ctl rfl (fun w => stepG_region_end) ?_
   refine f_ctl rfl (fun w => stepG_cond (t := false) (by simp [Act.eval])) ?_
   simp only [if_true, Bool.false_eq_true, if_false]
   refine f_ctl rfl (fun w => stepG_skip) ?_
   refine f_ctl rfl (fun w => stepG_seq) ?_
   refine f_ctl rfl (fun w => stepG_region) ?_
   simp only [List.size_toArray, List.length_cons, List.length_nil, Nat.reduceAdd, Nat.zero_add, List.range, List.range.loop]
   refine f_op rfl rfl (by k_ne) (fun w => ⟨run_eq_of (fun K hK => by go_simp; exact hK), listed_nil (by simp [go_sem, ev_min2, ev_max2, *])⟩) ?_
   walk_nrm
   refine f_op rfl rfl (by k_ne) (fun w => ⟨run_eq_of (fun K hK => by go_simp; exact hK), listed_nil (by simp [go_sem, ev_min2, ev_max2, *])⟩) ?_
   walk_nrm
   refine f_ctl rfl (fun w => stepG_region_end) ?_
   refine f_ctl rfl (fun w => stepG_ret') ?_
   refine f_leave rfl rfl Try.func46 (fun w => ⟨?_, ?_⟩) (v := .int .i64 (left - n)) ?_
   · simp [results, Try.f46, go_sem]
   · rw [show (results Try.f46 _).events Try.prog w #[] = #[] by simp [results, Try.f46, go_sem]]
     rfl
   · rw [show down left n = left - n from if_neg hlt] at next; exact next
theorem Nx.tp {w1 : World} (h : Nx SB A A' w0 w1 w) (T : Nat → Question → Nat) (d : Nat) : Nx SB A A' w0 w1 (Go.Proofs.Ytclnogfmmekooaa.tp w T d) := ⟨h.grow, h.fresh, h.xc.tp _ T d, ⟨h.bel.os, h.bel.output, h.bel.size, h.bel.block⟩⟩
theorem x_szBlock {ad : Option Addr} {n c : Nat} {worn left : Int} (hF : Nx SB A A w0 w1 w) (h1 : -1 ≤ left) (h2 : left ≤ 1048576) (hn : n ≤ 9223372036854775807) (next : ∀ w', Nx SB A A w0 w1 w' → Fine Try.prog Post SB (G (cc.finish (.int .i64 (down left n))) rest) w') : Fine Try.prog Post SB (G (Frame.enter Try.prog 29 #[.agg #[.slice ad n c, .int .i64 worn], .int .i64 left] .normal) (cc :: rest)) w := by
 rw [enter_at _ Try.func29 rfl]
 walk_nrmf Try.f29
 refine f_ctl rfl (fun w => stepG_seq) ?_
 refine f_ctl rfl (fun w => stepG_region) ?_
 simp only [List.size_toArray, List.length_cons, List.length_nil, Nat.reduceAdd, Nat.zero_add, List.range, List.range.loop]
 refine f_new (F := Nx SB A A w0 w1) (fun w T d h => h.tp T d) hF rfl rfl (by k_ne) (fun b => .pointer (some ⟨b, 0, none⟩)) (.cells #[.slice ad n c, .int .i64 worn] 50) (fun w hw => ⟨by go_simp, listed_nil (by simp [go_sem, *])⟩) (fun w hF => ?_)
 walk_nrm
 obtain ⟨V, hV⟩ : ∃ V, w.heap.size = V := ⟨_, rfl⟩
 have hb : Ob SB V #[.slice ad n c, .int .i64 worn] 50 { w with heap := w.heap.push (.cells #[.slice ad n c, .int .i64 worn] 50) } := ⟨by rw [← hV]; simp, fun x => by have := hF.xc.co.shun x; omega⟩
 replace hF := hF.push (.cells #[.slice ad n c, .int .i64 worn] 50)
 rw [hV]
 generalize ({ w with heap := w.heap.push (.cells #[.slice ad n c, .int .i64 worn] 50) } : World) = wx at hF hb ⊢
 clear hV
 refine f_op rfl rfl (by k_ne) (fun w => ⟨run_eq_of (fun K hK => by go_simp; exact hK), listed_nil (by simp [go_sem, ev_min2, ev_max2, *])⟩) ?_
 walk_nrm
 refine f_ctl rfl (fun w => stepG_region_end) ?_
 refine f_ctl rfl (fun w => stepG_seq) ?_
 refine f_ctl rfl (fun w => stepG_region) ?_
 simp only [List.size_toArray, List.length_cons, List.length_nil, Nat.reduceAdd, Nat.zero_add, List.range, List.range.loop]
 refine f_op rfl rfl (by k_ne) (fun w => ⟨run_eq_of (fun K hK => by go_simp; exact hK), listed_nil (by simp [go_sem, ev_min2, ev_max2, *])⟩) ?_
 walk_nrm
 refine f_val (F := Ob SB V #[.slice ad n c, .int .i64 worn] 50) Ob.tp hb rfl rfl (by k_ne) (v := .slice ad n c) (fun w hw => ⟨run_eq_of (fun K hK => by have h0 := hw.cell 0; simp only [List.getElem?_toArray, List.getElem?_cons_zero] at h0; go_simp; exact hK), by have h0 := hw.cell 0; simp only [List.getElem?_toArray, List.getElem?_cons_zero] at h0; intro e he; have hm := mem_listed he; simp [go_sem, *] at hm; subst hm; exact ⟨hw.nsb, hw.lt⟩⟩) ?_
 walk_nrm
 refine f_op rfl rfl (by k_ne) (fun w => ⟨run_eq_of (fun K hK => by go_simp; exact hK), listed_nil (by simp [go_sem, ev_min2, ev_max2, *])⟩) ?_
 walk_nrm
 refine f_enter rfl rfl (by k_ne) rfl Try.func46 rfl rfl ?_
 walk_nrm
 refine x_szPageS h1 h2 hn ?_
 rw [Frame.finish_at]
 walk_nrm
 refine f_op rfl rfl (by k_ne) (fun w => ⟨run_eq_of (fun K hK => by go_simp; exact hK), listed_nil (by simp [go_sem, ev_min2, ev_max2, *])⟩) ?_
 walk_nrm
 refine f_ctl rfl (fun w => stepG_region_end) ?_
 refine f_ctl rfl (fun w => stepG_seq) ?_
 refine f_ctl rfl (fun w => stepG_seq) ?_
 refine f_ctl rfl (fun w => stepG_region) ?_
 simp only [List.size_toArray, List.length_cons, List.length_nil, Nat.reduceAdd, Nat.zero_add, List.range, List.range.loop]
 refine f_op rfl rfl (by k_ne) (fun w => ⟨run_eq_of (fun K hK => by go_simp; exact hK), listed_nil (by simp [go_sem, ev_min2, ev_max2, *])⟩) ?_
 walk_nrm
 by_cases hlt : down left n < 0
 · skip
   refine f_op (v := .bool true) rfl rfl (by k_ne) (fun w => ⟨run_eq_of (fun K hK => by have h1 := hlt; go_simp; exact hK), listed_nil (by have h1 := hlt; simp [go_sem, ev_min2, ev_max2, *])⟩) ?_
   walk_nrm
   refine f_ctl rfl (fun w => stepG_region_end) ?_
   refine f_ctl rfl (fun w => stepG_cond (t := true) (by simp [Act.eval])) ?_
   simp only [if_true, Bool.false_eq_true, if_false]
   refine f_ctl rfl (fun w => stepG_seq) ?_
   refine f_ctl rfl (fun w => stepG_region) ?_
   simp only [List.size_toArray, List.length_cons, List.length_nil, Nat.reduceAdd, Nat.zero_add, List.range, List.range.loop]
   refine f_op rfl rfl (by k_ne) (fun w => ⟨run_eq_of (fun K hK => by go_simp; exact hK), listed_nil (by simp [go_sem, ev_min2, ev_max2, *])⟩) ?_
   walk_nrm
   refine f_ctl rfl (fun w => stepG_region_end) ?_
   refine f_ctl rfl (fun w => stepG_ret') ?_
   refine f_leave rfl rfl Try.func29 (fun w => ⟨?_, ?_⟩) (v := .int .i64 (-1)) ?_
   · simp [results, Try.f29, go_sem]
   · rw [show (results Try.f29 _).events Try.prog w #[] = #[] by simp [results, Try.f29, go_sem]]
     rfl
   · have hm : down left n = -1 := by
      unfold down at hlt ⊢
      split
      · rfl
      · rename_i h; rw [if_neg h] at hlt; omega
     have nx := next _ hF
     rw [hm] at nx
     exact nx
 · skip
   refine f_op (v := .bool false) rfl rfl (by k_ne) (fun w => ⟨run_eq_of (fun K hK => by have h1 := hlt; go_simp; exact hK), listed_nil (by have h1 := hlt; simp [go_sem, ev_min2, ev_max2, *])⟩) ?_
   walk_nrm
   refine f_ctl rfl (fun w => stepG_region_end) ?_
   refine f_ctl rfl (fun w => stepG_cond (t := false) (by simp [Act.eval])) ?_
   simp only [if_true, Bool.false_eq_true, if_false]
   refine f_ctl rfl (fun w => stepG_skip) ?_
   refine f_ctl rfl (fun w => stepG_seq) ?_
   refine f_ctl rfl (fun w => stepG_region) ?_
   simp only [List.size_toArray, List.length_cons, List.length_nil, Nat.reduceAdd, Nat.zero_add, List.range, List.range.loop]
   refine f_op rfl rfl (by k_ne) (fun w => ⟨run_eq_of (fun K hK => by go_simp; exact hK), listed_nil (by simp [go_sem, ev_min2, ev_max2, *])⟩) ?_
   walk_nrm
   refine f_op rfl rfl (by k_ne) (fun w => ⟨run_eq_of (fun K hK => by go_simp; exact hK), listed_nil (by simp [go_sem, ev_min2, ev_max2, *])⟩) ?_
   walk_nrm
   refine f_ctl rfl (fun w => stepG_region_end) ?_
   refine f_ctl rfl (fun w => stepG_ret') ?_
   refine f_leave rfl rfl Try.func29 (fun w => ⟨?_, ?_⟩) (v := .int .i64 (down left n)) ?_
   · simp [results, Try.f29, go_sem]
   · rw [show (results Try.f29 _).events Try.prog w #[] = #[] by simp [results, Try.f29, go_sem]]
     rfl
   · exact next _ hF
end
end Go.Proofs.Ytclnogfmmekooaa
namespace Go.Proofs.Ytclnogfmmekooaa
set_option linter.unusedVariables false
set_option linter.unusedSimpArgs false
open Go.Conc Go.ConcN Go.ConcR.Gen Go.RowKit
set_option maxRecDepth 100000
set_option maxHeartbeats 8000000
section
variable {SB A A' : Nat → Prop} {w0 w1 w : World} {Post : Value → World → Prop} {cc : Frame} {rest : List Frame}
theorem down_le (l : Int) (n : Nat) (h : 0 ≤ l := by omega) : down l n ≤ l := by unfold down; split <;> omega
/-- Two cells that stand. -/
structure Rc2 (SB : Nat → Prop) (b o : Nat) (u v : Value) (w : World) : Prop where
 c0 : w.cell? ⟨b, o, none⟩ = some u
 c1 : w.cell? ⟨b, o + 1, none⟩ = some v
 nsb : ¬ SB b
 lt : b < w.heap.size
theorem Rc2.tp {b o : Nat} {u v : Value} (w : World) (T : Nat → Question → Nat) (d : Nat) (h : Rc2 SB b o u v w) : Rc2 SB b o u v (Go.Proofs.Ytclnogfmmekooaa.tp w T d) := ⟨h.c0, h.c1, h.nsb, h.lt⟩
theorem Xc.rc2 (hX : Xc SB A w0 w) {b o : Nat} {u v : Value} (h0 : w0.cell? ⟨b, o, none⟩ = some u) (h1 : w0.cell? ⟨b, o + 1, none⟩ = some v) : Rc2 SB b o u v w := by
 have hb : b < w0.heap.size := lt_of_cell h0
 exact ⟨(hX.co.bel.cell hb o).trans h0, (hX.co.bel.cell hb (o + 1)).trans h1, (hX.old hb).1, (hX.old hb).2⟩
theorem arrw27 (T : Array Value) (h : T.size = 27) : ∃ v0 v1 v2 v3 v4 v5 v6 v7 v8 v9 v10 v11 v12 v13 v14 v15 v16 v17 v18 v19 v20 v21 v22 v23 v24 v25 v26, T = #[v0, v1, v2, v3, v4, v5, v6, v7, v8, v9, v10, v11, v12, v13, v14, v15, v16, v17, v18, v19, v20, v21, v22, v23, v24, v25, v26] := by
 obtain ⟨l⟩ := T
 replace h : l.length = 27 := h
 obtain ⟨v0, l0, e0, h⟩ := cons_of_len h
 obtain ⟨v1, l1, e1, h⟩ := cons_of_len h
 obtain ⟨v2, l2, e2, h⟩ := cons_of_len h
 obtain ⟨v3, l3, e3, h⟩ := cons_of_len h
 obtain ⟨v4, l4, e4, h⟩ := cons_of_len h
 obtain ⟨v5, l5, e5, h⟩ := cons_of_len h
 obtain ⟨v6, l6, e6, h⟩ := cons_of_len h
 obtain ⟨v7, l7, e7, h⟩ := cons_of_len h
 obtain ⟨v8, l8, e8, h⟩ := cons_of_len h
 obtain ⟨v9, l9, e9, h⟩ := cons_of_len h
 obtain ⟨v10, l10, e10, h⟩ := cons_of_len h
 obtain ⟨v11, l11, e11, h⟩ := cons_of_len h
 obtain ⟨v12, l12, e12, h⟩ := cons_of_len h
 obtain ⟨v13, l13, e13, h⟩ := cons_of_len h
 obtain ⟨v14, l14, e14, h⟩ := cons_of_len h
 obtain ⟨v15, l15, e15, h⟩ := cons_of_len h
 obtain ⟨v16, l16, e16, h⟩ := cons_of_len h
 obtain ⟨v17, l17, e17, h⟩ := cons_of_len h
 obtain ⟨v18, l18, e18, h⟩ := cons_of_len h
 obtain ⟨v19, l19, e19, h⟩ := cons_of_len h
 obtain ⟨v20, l20, e20, h⟩ := cons_of_len h
 obtain ⟨v21, l21, e21, h⟩ := cons_of_len h
 obtain ⟨v22, l22, e22, h⟩ := cons_of_len h
 obtain ⟨v23, l23, e23, h⟩ := cons_of_len h
 obtain ⟨v24, l24, e24, h⟩ := cons_of_len h
 obtain ⟨v25, l25, e25, h⟩ := cons_of_len h
 obtain ⟨v26, l26, e26, h⟩ := cons_of_len h
 have e := List.eq_nil_of_length_eq_zero h
 exact ⟨_, _, _, _, _, _, _, _, _, _, _, _, _, _, _, _, _, _, _, _, _, _, _, _, _, _, _, by rw [e0, e1, e2, e3, e4, e5, e6, e7, e8, e9, e10, e11, e12, e13, e14, e15, e16, e17, e18, e19, e20, e21, e22, e23, e24, e25, e26, e]⟩
noncomputable def szL : Go.Code := match Try.f11.body with | some (.seq _ (.seq _ (.seq _ (.seq (.seq _ (.block _ (.loop c))) _)))) => c | _ => .skip
noncomputable def szT : Go.Code := match Try.f11.body with | some (.seq _ (.seq _ (.seq _ (.seq _ c)))) => c | _ => .skip
theorem szIn {ad : Option Addr} {c : Nat} {f : List Bk} {hs : List (Option Addr × Nat)} {left : Int} (hn : f.length ≤ 9223372036854775807) (hp : ∀ b ∈ f, b.pages.length ≤ 9223372036854775807) (hF : RBks w0 ad f hs) (next : ∀ w', Nx SB A A w0 w1 w' → Fine Try.prog Post SB (G (cc.finish (.int .i64 (szFl left f))) rest) w') :
 ∀ (r k : Nat) (T : Array Value) (m : Int) (w : World), k + r = f.length → T.size = 27 → T[0]? = some (.slice ad f.length c) → T[1]? = some (.int .i64 m) → T[5]? = some (.int .i64 (k : Int)) → 0 ≤ m → m ≤ 1048576 → szFl left f = szGo m (f.drop k) → Nx SB A A w0 w1 w → Fine Try.prog Post SB (G ((base 11).at ⟨T, []⟩ [.code szL, .inLoop szL, .inBlock 0, .code szT]) (cc :: rest)) w := by
 simp only [szL, szT, Try.f11]
 intro r
 induction r with
 | zero =>
   intro k T m w hr hT t0 t1 t5 hm1 hm2 hgo hN
   obtain rfl : k = f.length := by omega
   have hkx : ¬ (f.length : Int) < (f.length : Int) := by omega
   replace hgo := Lib.hid hgo
   obtain ⟨v0, v1, v2, v3, v4, v5, v6, v7, v8, v9, v10, v11, v12, v13, v14, v15, v16, v17, v18, v19, v20, v21, v22, v23, v24, v25, v26, rfl⟩ := arrw27 T hT
   simp only [List.getElem?_toArray, List.getElem?_cons_succ, List.getElem?_cons_zero, Option.some.injEq] at t0 t1 t5
   subst t0 t1 t5
   refine f_ctl rfl (fun w => stepG_seq) ?_
   refine f_ctl rfl (fun w => stepG_seq) ?_
   refine f_ctl rfl (fun w => stepG_region) ?_
   simp only [List.size_toArray, List.length_cons, List.length_nil, Nat.reduceAdd, Nat.zero_add, List.range, List.range.loop]
   refine f_op rfl rfl (by k_ne) (fun w => ⟨run_eq_of (fun K hK => by go_simp; exact hK), listed_nil (by simp [go_sem, ev_min2, ev_max2, *])⟩) ?_
   walk_nrm
   refine f_op rfl rfl (by k_ne) (fun w => ⟨run_eq_of (fun K hK => by go_simp; exact hK), listed_nil (by simp [go_sem, ev_min2, ev_max2, *])⟩) ?_
   walk_nrm
   refine f_op rfl rfl (by k_ne) (fun w => ⟨run_eq_of (fun K hK => by go_simp; exact hK), listed_nil (by simp [go_sem, ev_min2, ev_max2, *])⟩) ?_
   walk_nrm
   refine f_op (v := .bool false) rfl rfl (by k_ne) (fun w => ⟨run_eq_of (fun K hK => by have h1 := hkx; go_simp; exact hK), listed_nil (by have h1 := hkx; simp [go_sem, ev_min2, ev_max2, *])⟩) ?_
   walk_nrm
   refine f_ctl rfl (fun w => stepG_region_end) ?_
   refine f_ctl rfl (fun w => stepG_cond (t := false) (by simp [Act.eval])) ?_
   simp only [if_true, Bool.false_eq_true, if_false]
   refine f_ctl rfl (fun w => stepG_exit rfl) ?_
   refine f_ctl rfl (fun w => stepG_seq) ?_
   refine f_ctl rfl (fun w => stepG_region) ?_
   simp only [List.size_toArray, List.length_cons, List.length_nil, Nat.reduceAdd, Nat.zero_add, List.range, List.range.loop]
   refine f_op rfl rfl (by k_ne) (fun w => ⟨run_eq_of (fun K hK => by go_simp; exact hK), listed_nil (by simp [go_sem, ev_min2, ev_max2, *])⟩) ?_
   walk_nrm
   refine f_op rfl rfl (by k_ne) (fun w => ⟨run_eq_of (fun K hK => by go_simp; exact hK), listed_nil (by simp [go_sem, ev_min2, ev_max2, *])⟩) ?_
   walk_nrm
   refine f_ctl rfl (fun w => stepG_region_end) ?_
   refine f_ctl rfl (fun w => stepG_ret') ?_
   refine f_leave rfl rfl Try.func11 (fun w => ⟨?_, ?_⟩) (v := .int .i64 m) ?_
   · simp [results, Try.f11, go_sem]
   · rw [show (results Try.f11 _).events Try.prog w #[] = #[] by simp [results, Try.f11, go_sem]]
     rfl
   · rw [show szFl left f = m from by rw [hgo.out, List.drop_of_length_le (Nat.le_refl _), szGo]] at next; exact next w hN
 | succ r ih =>
   intro k T m w hr hT t0 t1 t5 hm1 hm2 hgo hN
   replace ih := Lib.hid ih
   have hlt0 : k < f.length := by omega
   obtain ⟨b, hb⟩ := get_some (l := f) (k := k) hlt0
   have hbl := hp b (List.mem_of_getElem? hb)
   obtain ⟨bk, off, rfl⟩ := hF.addr (by rintro rfl; simp at hlt0)
   obtain ⟨x, _, c0, c1, _⟩ := hF.at_ hb
   have hR := hN.xc.rc2 c0 c1
   have hdr := Lib.hid (drop_cons hb)
   have hkl : (k : Int) < (f.length : Int) := by omega
   have hk1 : IntKind.i64.wrap ((k : Int) + 1) = ((k + 1 : Nat) : Int) := by rw [IntKind.wrap_i64]; omega
   replace hgo := Lib.hid hgo
   replace hr := Lib.hid hr
   clear c0 c1 hb hlt0
   obtain ⟨v0, v1, v2, v3, v4, v5, v6, v7, v8, v9, v10, v11, v12, v13, v14, v15, v16, v17, v18, v19, v20, v21, v22, v23, v24, v25, v26, rfl⟩ := arrw27 T hT
   simp only [List.getElem?_toArray, List.getElem?_cons_succ, List.getElem?_cons_zero, Option.some.injEq] at t0 t1 t5
   subst t0 t1 t5
   refine f_ctl rfl (fun w => stepG_seq) ?_
   refine f_ctl rfl (fun w => stepG_seq) ?_
   refine f_ctl rfl (fun w => stepG_region) ?_
   simp only [List.size_toArray, List.length_cons, List.length_nil, Nat.reduceAdd, Nat.zero_add, List.range, List.range.loop]
   refine f_op rfl rfl (by k_ne) (fun w => ⟨run_eq_of (fun K hK => by go_simp; exact hK), listed_nil (by simp [go_sem, ev_min2, ev_max2, *])⟩) ?_
   walk_nrm
   refine f_op rfl rfl (by k_ne) (fun w => ⟨run_eq_of (fun K hK => by go_simp; exact hK), listed_nil (by simp [go_sem, ev_min2, ev_max2, *])⟩) ?_
   walk_nrm
   refine f_op rfl rfl (by k_ne) (fun w => ⟨run_eq_of (fun K hK => by go_simp; exact hK), listed_nil (by simp [go_sem, ev_min2, ev_max2, *])⟩) ?_
   walk_nrm
   refine f_op (v := .bool true) rfl rfl (by k_ne) (fun w => ⟨run_eq_of (fun K hK => by have h1 := hkl; go_simp; exact hK), listed_nil (by have h1 := hkl; simp [go_sem, ev_min2, ev_max2, *])⟩) ?_
   walk_nrm
   refine f_ctl rfl (fun w => stepG_region_end) ?_
   refine f_ctl rfl (fun w => stepG_cond (t := true) (by simp [Act.eval])) ?_
   simp only [if_true, Bool.false_eq_true, if_false]
   refine f_ctl rfl (fun w => stepG_skip) ?_
   refine f_ctl rfl (fun w => stepG_seq) ?_
   refine f_ctl rfl (fun w => stepG_block) ?_
   refine f_ctl rfl (fun w => stepG_seq) ?_
   refine f_ctl rfl (fun w => stepG_region) ?_
   simp only [List.size_toArray, List.length_cons, List.length_nil, Nat.reduceAdd, Nat.zero_add, List.range, List.range.loop]
   refine f_op rfl rfl (by k_ne) (fun w => ⟨run_eq_of (fun K hK => by go_simp; exact hK), listed_nil (by simp [go_sem, ev_min2, ev_max2, *])⟩) ?_
   walk_nrm
   refine f_op rfl rfl (by k_ne) (fun w => ⟨run_eq_of (fun K hK => by go_simp; exact hK), listed_nil (by simp [go_sem, ev_min2, ev_max2, *])⟩) ?_
   walk_nrm
   refine f_op rfl rfl (by k_ne) (fun w => ⟨run_eq_of (fun K hK => by have h1 := hkl; go_simp; exact hK), listed_nil (by have h1 := hkl; simp [go_sem, ev_min2, ev_max2, *])⟩) ?_
   walk_nrm
   refine f_val (F := Rc2 SB bk (off + k * 2) (.slice x.1 b.pages.length x.2) (.int .i64 b.worn)) Rc2.tp hR rfl rfl (by k_ne) (v := .agg #[.slice x.1 b.pages.length x.2, .int .i64 b.worn]) (fun w hw => ⟨run_eq_of (fun K hK => by have h0 := hw.c0; have h1 := hw.c1; go_simp; exact hK), by have h0 := hw.c0; have h1 := hw.c1; intro e he; have hm := mem_listed he; simp [go_sem, *] at hm; rcases hm with rfl | rfl <;> exact ⟨hw.nsb, hw.lt⟩⟩) ?_
   walk_nrm
   refine f_op rfl rfl (by k_ne) (fun w => ⟨run_eq_of (fun K hK => by go_simp; exact hK), listed_nil (by simp [go_sem, ev_min2, ev_max2, *])⟩) ?_
   walk_nrm
   refine f_enter rfl rfl (by k_ne) rfl Try.func29 rfl rfl ?_
   walk_nrm
   refine x_szBlock hN (by omega) hm2 hbl fun w hN => ?_
   rw [Frame.finish_at]
   walk_nrm
   refine f_op rfl rfl (by k_ne) (fun w => ⟨run_eq_of (fun K hK => by go_simp; exact hK), listed_nil (by simp [go_sem, ev_min2, ev_max2, *])⟩) ?_
   walk_nrm
   refine f_ctl rfl (fun w => stepG_region_end) ?_
   refine f_ctl rfl (fun w => stepG_seq) ?_
   refine f_ctl rfl (fun w => stepG_region) ?_
   simp only [List.size_toArray, List.length_cons, List.length_nil, Nat.reduceAdd, Nat.zero_add, List.range, List.range.loop]
   refine f_op rfl rfl (by k_ne) (fun w => ⟨run_eq_of (fun K hK => by go_simp; exact hK), listed_nil (by simp [go_sem, ev_min2, ev_max2, *])⟩) ?_
   walk_nrm
   by_cases hlt : down m b.pages.length < 0
   · skip
     refine f_op (v := .bool true) rfl rfl (by k_ne) (fun w => ⟨run_eq_of (fun K hK => by have h1 := hlt; go_simp; exact hK), listed_nil (by have h1 := hlt; simp [go_sem, ev_min2, ev_max2, *])⟩) ?_
     walk_nrm
     refine f_ctl rfl (fun w => stepG_region_end) ?_
     refine f_ctl rfl (fun w => stepG_cond (t := true) (by simp [Act.eval])) ?_
     simp only [if_true, Bool.false_eq_true, if_false]
     refine f_ctl rfl (fun w => stepG_seq) ?_
     refine f_ctl rfl (fun w => stepG_region) ?_
     simp only [List.size_toArray, List.length_cons, List.length_nil, Nat.reduceAdd, Nat.zero_add, List.range, List.range.loop]
     refine f_op rfl rfl (by k_ne) (fun w => ⟨run_eq_of (fun K hK => by go_simp; exact hK), listed_nil (by simp [go_sem, ev_min2, ev_max2, *])⟩) ?_
     walk_nrm
     refine f_ctl rfl (fun w => stepG_region_end) ?_
     refine f_ctl rfl (fun w => stepG_ret') ?_
     refine f_leave rfl rfl Try.func11 (fun w => ⟨?_, ?_⟩) (v := .int .i64 (-1)) ?_
     · simp [results, Try.f11, go_sem]
     · rw [show (results Try.f11 _).events Try.prog w #[] = #[] by simp [results, Try.f11, go_sem]]
       rfl
     · rw [show szFl left f = -1 from by rw [hgo.out, hdr.out, szGo, if_pos hlt]] at next; exact next w hN
   · skip
     refine f_op (v := .bool false) rfl rfl (by k_ne) (fun w => ⟨run_eq_of (fun K hK => by have h1 := hlt; go_simp; exact hK), listed_nil (by have h1 := hlt; simp [go_sem, ev_min2, ev_max2, *])⟩) ?_
     walk_nrm
     refine f_ctl rfl (fun w => stepG_region_end) ?_
     refine f_ctl rfl (fun w => stepG_cond (t := false) (by simp [Act.eval])) ?_
     simp only [if_true, Bool.false_eq_true, if_false]
     refine f_ctl rfl (fun w => stepG_skip) ?_
     refine f_ctl rfl (fun w => stepG_inBlock) ?_
     refine f_ctl rfl (fun w => stepG_region) ?_
     simp only [List.size_toArray, List.length_cons, List.length_nil, Nat.reduceAdd, Nat.zero_add, List.range, List.range.loop]
     refine f_op rfl rfl (by k_ne) (fun w => ⟨run_eq_of (fun K hK => by go_simp; exact hK), listed_nil (by simp [go_sem, ev_min2, ev_max2, *])⟩) ?_
     walk_nrm
     refine f_op (v := .int .i64 ((k + 1 : Nat) : Int)) rfl rfl (by k_ne) (fun w => ⟨run_eq_of (fun K hK => by have h1 := hk1; go_simp; exact hK), listed_nil (by have h1 := hk1; simp [go_sem, ev_min2, ev_max2, *])⟩) ?_
     walk_nrm
     refine f_op rfl rfl (by k_ne) (fun w => ⟨run_eq_of (fun K hK => by go_simp; exact hK), listed_nil (by simp [go_sem, ev_min2, ev_max2, *])⟩) ?_
     walk_nrm
     refine f_ctl rfl (fun w => stepG_region_end) ?_
     refine f_ctl rfl (fun w => stepG_inLoop) ?_
     exact ih.out (k + 1) _ (down m b.pages.length) w (by have := hr.out; omega) rfl rfl rfl rfl (by omega) (by have := down_le m b.pages.length; omega) (by rw [hgo.out, hdr.out, szGo, if_neg hlt]) hN
theorem x_szBlockS {ad : Option Addr} {c : Nat} {f : List Bk} {hs : List (Option Addr × Nat)} {left : Int} (hX : Xc SB A w0 w) (h1 : 0 ≤ left) (h2 : left ≤ 1048576) (hn : f.length ≤ 9223372036854775807) (hp : ∀ b ∈ f, b.pages.length ≤ 9223372036854775807) (hF : RBks w0 ad f hs) (next : ∀ w', Nx SB A A w0 w w' → Fine Try.prog Post SB (G (cc.finish (.int .i64 (szFl left f))) rest) w') : Fine Try.prog Post SB (G (Frame.enter Try.prog 11 #[.slice ad f.length c, .int .i64 left] .normal) (cc :: rest)) w := by
 have hwr : IntKind.i64.wrap (left - (f.length : Int)) = left - (f.length : Int) := by rw [IntKind.wrap_i64]; omega
 rw [enter_at _ Try.func11 rfl]
 walk_nrmf Try.f11
 refine f_ctl rfl (fun w => stepG_seq) ?_
 refine f_ctl rfl (fun w => stepG_region) ?_
 simp only [List.size_toArray, List.length_cons, List.length_nil, Nat.reduceAdd, Nat.zero_add, List.range, List.range.loop]
 refine f_op rfl rfl (by k_ne) (fun w => ⟨run_eq_of (fun K hK => by go_simp; exact hK), listed_nil (by simp [go_sem, ev_min2, ev_max2, *])⟩) ?_
 walk_nrm
 refine f_ctl rfl (fun w => stepG_region_end) ?_
 refine f_ctl rfl (fun w => stepG_seq) ?_
 refine f_ctl rfl (fun w => stepG_region) ?_
 simp only [List.size_toArray, List.length_cons, List.length_nil, Nat.reduceAdd, Nat.zero_add, List.range, List.range.loop]
 refine f_op rfl rfl (by k_ne) (fun w => ⟨run_eq_of (fun K hK => by go_simp; exact hK), listed_nil (by simp [go_sem, ev_min2, ev_max2, *])⟩) ?_
 walk_nrm
 refine f_op rfl rfl (by k_ne) (fun w => ⟨run_eq_of (fun K hK => by go_simp; exact hK), listed_nil (by simp [go_sem, ev_min2, ev_max2, *])⟩) ?_
 walk_nrm
 refine f_op rfl rfl (by k_ne) (fun w => ⟨run_eq_of (fun K hK => by go_simp; exact hK), listed_nil (by simp [go_sem, ev_min2, ev_max2, *])⟩) ?_
 walk_nrm
 refine f_op (v := .int .i64 (left - f.length)) rfl rfl (by k_ne) (fun w => ⟨run_eq_of (fun K hK => by have h1 := hwr; go_simp; exact hK), listed_nil (by have h1 := hwr; simp [go_sem, ev_min2, ev_max2, *])⟩) ?_
 walk_nrm
 refine f_op rfl rfl (by k_ne) (fun w => ⟨run_eq_of (fun K hK => by go_simp; exact hK), listed_nil (by simp [go_sem, ev_min2, ev_max2, *])⟩) ?_
 walk_nrm
 refine f_ctl rfl (fun w => stepG_region_end) ?_
 refine f_ctl rfl (fun w => stepG_seq) ?_
 refine f_ctl rfl (fun w => stepG_seq) ?_
 refine f_ctl rfl (fun w => stepG_region) ?_
 simp only [List.size_toArray, List.length_cons, List.length_nil, Nat.reduceAdd, Nat.zero_add, List.range, List.range.loop]
 refine f_op rfl rfl (by k_ne) (fun w => ⟨run_eq_of (fun K hK => by go_simp; exact hK), listed_nil (by simp [go_sem, ev_min2, ev_max2, *])⟩) ?_
 walk_nrm
 by_cases hlt : left - (f.length : Int) < 0
 · skip
   refine f_op (v := .bool true) rfl rfl (by k_ne) (fun w => ⟨run_eq_of (fun K hK => by have h1 := hlt; go_simp; exact hK), listed_nil (by have h1 := hlt; simp [go_sem, ev_min2, ev_max2, *])⟩) ?_
   walk_nrm
   refine f_ctl rfl (fun w => stepG_region_end) ?_
   refine f_ctl rfl (fun w => stepG_cond (t := true) (by simp [Act.eval])) ?_
   simp only [if_true, Bool.false_eq_true, if_false]
   refine f_ctl rfl (fun w => stepG_seq) ?_
   refine f_ctl rfl (fun w => stepG_region) ?_
   simp only [List.size_toArray, List.length_cons, List.length_nil, Nat.reduceAdd, Nat.zero_add, List.range, List.range.loop]
   refine f_op rfl rfl (by k_ne) (fun w => ⟨run_eq_of (fun K hK => by go_simp; exact hK), listed_nil (by simp [go_sem, ev_min2, ev_max2, *])⟩) ?_
   walk_nrm
   refine f_ctl rfl (fun w => stepG_region_end) ?_
   refine f_ctl rfl (fun w => stepG_ret') ?_
   refine f_leave rfl rfl Try.func11 (fun w => ⟨?_, ?_⟩) (v := .int .i64 (-1)) ?_
   · simp [results, Try.f11, go_sem]
   · rw [show (results Try.f11 _).events Try.prog w #[] = #[] by simp [results, Try.f11, go_sem]]
     rfl
   · rw [show szFl left f = -1 from if_pos hlt] at next; exact next w (.refl hX)
 · skip
   refine f_op (v := .bool false) rfl rfl (by k_ne) (fun w => ⟨run_eq_of (fun K hK => by have h1 := hlt; go_simp; exact hK), listed_nil (by have h1 := hlt; simp [go_sem, ev_min2, ev_max2, *])⟩) ?_
   walk_nrm
   refine f_ctl rfl (fun w => stepG_region_end) ?_
   refine f_ctl rfl (fun w => stepG_cond (t := false) (by simp [Act.eval])) ?_
   simp only [if_true, Bool.false_eq_true, if_false]
   refine f_ctl rfl (fun w => stepG_skip) ?_
   refine f_ctl rfl (fun w => stepG_seq) ?_
   refine f_ctl rfl (fun w => stepG_seq) ?_
   refine f_ctl rfl (fun w => stepG_region) ?_
   simp only [List.size_toArray, List.length_cons, List.length_nil, Nat.reduceAdd, Nat.zero_add, List.range, List.range.loop]
   refine f_op rfl rfl (by k_ne) (fun w => ⟨run_eq_of (fun K hK => by go_simp; exact hK), listed_nil (by simp [go_sem, ev_min2, ev_max2, *])⟩) ?_
   walk_nrm
   refine f_ctl rfl (fun w => stepG_region_end) ?_
   refine f_ctl rfl (fun w => stepG_block) ?_
   refine f_ctl rfl (fun w => stepG_loop) ?_
   have hin := fun T => szIn (Post := Post) (cc := cc) (rest := rest) (left := left) (c := c) hn hp hF next f.length 0 T (left - f.length) w (by omega)
   simp only [szL, szT, Try.f11] at hin
   exact hin _ rfl rfl rfl rfl (by omega) (by omega) (if_neg hlt) (.refl hX)
end
end Go.Proofs.Ytclnogfmmekooaa
namespace Go.Proofs.Ytclnogfmmekooaa
set_option linter.unusedVariables false
set_option linter.unusedSimpArgs false
open Go.Conc Go.ConcN Go.ConcR.Gen Go.RowKit
set_option maxRecDepth 100000
set_option maxHeartbeats 8000000
section
variable {SB A A' : Nat → Prop} {w0 w1 w : World} {Post : Value → World → Prop} {cc : Frame} {rest : List Frame}
/-- A page's five cells that stand. -/
structure Rc5 (SB : Nat → Prop) (b o : Nat) (p : Pg) (w : World) : Prop where
 c0 : w.cell? ⟨b, o, none⟩ = some (.int .i64 p.state)
 c1 : w.cell? ⟨b, o + 1, none⟩ = some (.int .i64 p.rc.kind)
 c2 : w.cell? ⟨b, o + 2, none⟩ = some (.int .i64 p.rc.seq)
 c3 : w.cell? ⟨b, o + 3, none⟩ = some (.int .i64 p.rc.addr)
 c4 : w.cell? ⟨b, o + 4, none⟩ = some (.int .i64 p.rc.val)
 nsb : ¬ SB b
 lt : b < w.heap.size
theorem Rc5.tp {b o : Nat} {p : Pg} (w : World) (T : Nat → Question → Nat) (d : Nat) (h : Rc5 SB b o p w) : Rc5 SB b o p (Go.Proofs.Ytclnogfmmekooaa.tp w T d) := ⟨h.c0, h.c1, h.c2, h.c3, h.c4, h.nsb, h.lt⟩
theorem Xc.rc5 (hX : Xc SB A w0 w) {b o k : Nat} {ps : List Pg} {p : Pg} (h : RRow w0 (some ⟨b, o, none⟩) (pgs ps)) (hp : ps[k]? = some p) : Rc5 SB b (o + k * 5) p w := by
 obtain ⟨c0, c1, c2, c3, c4⟩ := h.pg hp
 have hb : b < w0.heap.size := lt_of_cell c0
 exact ⟨(hX.co.bel.cell hb _).trans c0, (hX.co.bel.cell hb _).trans c1, (hX.co.bel.cell hb _).trans c2, (hX.co.bel.cell hb _).trans c3, (hX.co.bel.cell hb _).trans c4, (hX.old hb).1, (hX.old hb).2⟩
/-- A row of pages being made. -/
structure Pc (SB A A' : Nat → Prop) (w0 w1 : World) (g : Nat) (qs : List Pg) (w : World) : Prop where
 nx : Nx SB A A' w0 w1 w
 ing : A' g
 new : w1.heap.size ≤ g
 row : Row w (some ⟨g, 0, none⟩) (pgs qs)
theorem Pc.tp {g : Nat} {qs : List Pg} (w : World) (T : Nat → Question → Nat) (d : Nat) (h : Pc SB A A' w0 w1 g qs w) : Pc SB A A' w0 w1 g qs (Go.Proofs.Ytclnogfmmekooaa.tp w T d) := ⟨h.nx.tp T d, h.ing, h.new, h.row⟩
theorem Row.bel {w w' : World} {a : Option Addr} {vs : List Value} (h : Row w a vs) (hb : Bel w w') : Row w' a vs := by
 have : Row { w' with tape := w.tape } a vs := h.below hb.bl (Nat.le_refl _)
 exact this
theorem Pc.more {g : Nat} {qs : List Pg} {A2 : Nat → Prop} {w' : World} (h : Pc SB A A' w0 w1 g qs w) (k : Nx SB A' A2 w0 w w') : Pc SB A A2 w0 w1 g qs w' := ⟨h.nx.trans k, k.grow _ h.ing, h.new, h.row.bel k.bel⟩
theorem Nx.wrote {w' : World} {g o : Nat} {vs : List Value} (h : Nx SB A A' w0 w1 w) (hx : Xc SB A' w0 w') (hW : Wrote w w' g o vs) (hg : w1.heap.size ≤ g) : Nx SB A A' w0 w1 w' := ⟨h.grow, h.fresh, hx, h.bel.more hW.size hW.os hW.output fun b hb => hW.block b (by omega)⟩
theorem Pc.set {g k : Nat} {qs : List Pg} {q : Pg} (h : Pc SB A A' w0 w1 g qs w) (hg0 : w0.heap.size ≤ g) (hget : qs[k]? = some q) (p : Pg) : Pc SB A A' w0 w1 g (qs.set k p) (((((w.setCell ⟨g, 0 + k * 5, none⟩ (.int .i64 p.state)).setCell ⟨g, 0 + k * 5 + 1, none⟩ (.int .i64 p.rc.kind)).setCell ⟨g, 0 + k * 5 + 2, none⟩ (.int .i64 p.rc.seq)).setCell ⟨g, 0 + k * 5 + 3, none⟩ (.int .i64 p.rc.addr)).setCell ⟨g, 0 + k * 5 + 4, none⟩ (.int .i64 p.rc.val)) := by
 have hW := wrote_page h.row hget p
 exact ⟨h.nx.wrote (((((h.nx.xc.setIn _ (.int _ _) hg0).setIn _ (.int _ _) hg0).setIn _ (.int _ _) hg0).setIn _ (.int _ _) hg0).setIn _ (.int _ _) hg0) hW h.new, h.ing, h.new, h.row.setPage (List.getElem?_eq_some_iff.1 hget).1 hW⟩
theorem Pc.new_ {ps : List Pg} (h : Nx SB A A w0 w1 w) : Pc SB A (fun b => A b ∨ b = w.heap.size) w0 w1 w.heap.size (List.replicate ps.length pg0) { w with heap := w.heap.push (.cells (madeCells #[.int .i64 0, .int .i64 0, .int .i64 0, .int .i64 0, .int .i64 0] (ps.length * 5)) 42) } := by
 have hv : ∀ v ∈ madeCells #[Value.int .i64 0, .int .i64 0, .int .i64 0, .int .i64 0, .int .i64 0] (ps.length * 5), VIn (good none) A v := fun v hv => by
  rw [← Array.mem_toList_iff, made_list Pg.vs pg0 #[.int .i64 0, .int .i64 0, .int .i64 0, .int .i64 0, .int .i64 0] 5 rfl rfl (by simp) ps.length] at hv
  simp only [List.mem_flatMap] at hv
  obtain ⟨p, _, hp⟩ := hv
  simp only [Pg.vs, List.mem_cons, List.not_mem_nil, or_false] at hp
  rcases hp with rfl | rfl | rfl | rfl | rfl <;> exact .int _ _
 refine ⟨⟨fun b h => .inl h, fun b x => x.elim .inl (fun e => .inr (by have := h.bel.size; omega)), h.xc.pushIn fun r => .all hv, h.bel.trans ⟨rfl, rfl, by simp, fun b hb => getElem?_push_old _ _ hb⟩⟩, .inr rfl, h.bel.size, ?_⟩
 have := Row.new w (madeCells #[.int .i64 0, .int .i64 0, .int .i64 0, .int .i64 0, .int .i64 0] (ps.length * 5)) 42
 rw [made_list Pg.vs pg0 #[.int .i64 0, .int .i64 0, .int .i64 0, .int .i64 0, .int .i64 0] 5 rfl rfl (by simp) ps.length] at this
 exact this
theorem arrw23 (T : Array Value) (h : T.size = 23) : ∃ v0 v1 v2 v3 v4 v5 v6 v7 v8 v9 v10 v11 v12 v13 v14 v15 v16 v17 v18 v19 v20 v21 v22, T = #[v0, v1, v2, v3, v4, v5, v6, v7, v8, v9, v10, v11, v12, v13, v14, v15, v16, v17, v18, v19, v20, v21, v22] := by
 obtain ⟨l⟩ := T
 replace h : l.length = 23 := h
 obtain ⟨v0, l0, e0, h⟩ := cons_of_len h
 obtain ⟨v1, l1, e1, h⟩ := cons_of_len h
 obtain ⟨v2, l2, e2, h⟩ := cons_of_len h
 obtain ⟨v3, l3, e3, h⟩ := cons_of_len h
 obtain ⟨v4, l4, e4, h⟩ := cons_of_len h
 obtain ⟨v5, l5, e5, h⟩ := cons_of_len h
 obtain ⟨v6, l6, e6, h⟩ := cons_of_len h
 obtain ⟨v7, l7, e7, h⟩ := cons_of_len h
 obtain ⟨v8, l8, e8, h⟩ := cons_of_len h
 obtain ⟨v9, l9, e9, h⟩ := cons_of_len h
 obtain ⟨v10, l10, e10, h⟩ := cons_of_len h
 obtain ⟨v11, l11, e11, h⟩ := cons_of_len h
 obtain ⟨v12, l12, e12, h⟩ := cons_of_len h
 obtain ⟨v13, l13, e13, h⟩ := cons_of_len h
 obtain ⟨v14, l14, e14, h⟩ := cons_of_len h
 obtain ⟨v15, l15, e15, h⟩ := cons_of_len h
 obtain ⟨v16, l16, e16, h⟩ := cons_of_len h
 obtain ⟨v17, l17, e17, h⟩ := cons_of_len h
 obtain ⟨v18, l18, e18, h⟩ := cons_of_len h
 obtain ⟨v19, l19, e19, h⟩ := cons_of_len h
 obtain ⟨v20, l20, e20, h⟩ := cons_of_len h
 obtain ⟨v21, l21, e21, h⟩ := cons_of_len h
 obtain ⟨v22, l22, e22, h⟩ := cons_of_len h
 have e := List.eq_nil_of_length_eq_zero h
 exact ⟨_, _, _, _, _, _, _, _, _, _, _, _, _, _, _, _, _, _, _, _, _, _, _, by rw [e0, e1, e2, e3, e4, e5, e6, e7, e8, e9, e10, e11, e12, e13, e14, e15, e16, e17, e18, e19, e20, e21, e22, e]⟩
noncomputable def tpL : Go.Code := match Try.f47.body with | some (.seq _ (.seq _ (.seq (.seq _ (.block _ (.loop c))) _))) => c | _ => .skip
noncomputable def tpT : Go.Code := match Try.f47.body with | some (.seq _ (.seq _ (.seq _ c))) => c | _ => .skip
theorem tpIn {ad : Option Addr} {c g : Nat} {ps : List Pg} (hw1 : w0.heap.size ≤ w1.heap.size) (hl : ps.length ≤ 1048576) (hR0 : RRow w0 ad (pgs ps)) (next : ∀ A' w', Pc SB A A' w0 w1 g ps w' → Fine Try.prog Post SB (G (cc.finish (.slice (some ⟨g, 0, none⟩) ps.length ps.length)) rest) w') :
 ∀ (r k : Nat) (T : Array Value) (A1 : Nat → Prop) (w : World), k + r = ps.length → T.size = 23 → T[0]? = some (.slice ad ps.length c) → T[3]? = some (.slice (some ⟨g, 0, none⟩) ps.length ps.length) → T[4]? = some (.int .i64 (k : Int)) → Pc SB A A1 w0 w1 g (ps.take k ++ (List.replicate ps.length pg0).drop k) w → Fine Try.prog Post SB (G ((base 47).at ⟨T, []⟩ [.code tpL, .inLoop tpL, .inBlock 0, .code tpT]) (cc :: rest)) w := by
 simp only [tpL, tpT, Try.f47]
 intro r
 induction r with
 | zero =>
   intro k T A1 w hr hT t0 t3 t4 hP
   obtain rfl : k = ps.length := by omega
   rw [List.take_of_length_le (Nat.le_refl _), List.drop_of_length_le (by simp), List.append_nil] at hP
   have hkx : ¬ (ps.length : Int) < (ps.length : Int) := by omega
   obtain ⟨v0, v1, v2, v3, v4, v5, v6, v7, v8, v9, v10, v11, v12, v13, v14, v15, v16, v17, v18, v19, v20, v21, v22, rfl⟩ := arrw23 T hT
   simp only [List.getElem?_toArray, List.getElem?_cons_succ, List.getElem?_cons_zero, Option.some.injEq] at t0 t3 t4
   subst t0 t3 t4
   refine f_ctl rfl (fun w => stepG_seq) ?_
   refine f_ctl rfl (fun w => stepG_seq) ?_
   refine f_ctl rfl (fun w => stepG_region) ?_
   simp only [List.size_toArray, List.length_cons, List.length_nil, Nat.reduceAdd, Nat.zero_add, List.range, List.range.loop]
   refine f_op rfl rfl (by k_ne) (fun w => ⟨run_eq_of (fun K hK => by go_simp; exact hK), listed_nil (by simp [go_sem, ev_min2, ev_max2, *])⟩) ?_
   walk_nrm
   refine f_op rfl rfl (by k_ne) (fun w => ⟨run_eq_of (fun K hK => by go_simp; exact hK), listed_nil (by simp [go_sem, ev_min2, ev_max2, *])⟩) ?_
   walk_nrm
   refine f_op rfl rfl (by k_ne) (fun w => ⟨run_eq_of (fun K hK => by go_simp; exact hK), listed_nil (by simp [go_sem, ev_min2, ev_max2, *])⟩) ?_
   walk_nrm
   refine f_op (v := .bool false) rfl rfl (by k_ne) (fun w => ⟨run_eq_of (fun K hK => by have h1 := hkx; go_simp; exact hK), listed_nil (by have h1 := hkx; simp [go_sem, ev_min2, ev_max2, *])⟩) ?_
   walk_nrm
   refine f_ctl rfl (fun w => stepG_region_end) ?_
   refine f_ctl rfl (fun w => stepG_cond (t := false) (by simp [Act.eval])) ?_
   simp only [if_true, Bool.false_eq_true, if_false]
   refine f_ctl rfl (fun w => stepG_exit rfl) ?_
   refine f_ctl rfl (fun w => stepG_seq) ?_
   refine f_ctl rfl (fun w => stepG_region) ?_
   simp only [List.size_toArray, List.length_cons, List.length_nil, Nat.reduceAdd, Nat.zero_add, List.range, List.range.loop]
   refine f_op rfl rfl (by k_ne) (fun w => ⟨run_eq_of (fun K hK => by go_simp; exact hK), listed_nil (by simp [go_sem, ev_min2, ev_max2, *])⟩) ?_
   walk_nrm
   refine f_op rfl rfl (by k_ne) (fun w => ⟨run_eq_of (fun K hK => by go_simp; exact hK), listed_nil (by simp [go_sem, ev_min2, ev_max2, *])⟩) ?_
   walk_nrm
   refine f_ctl rfl (fun w => stepG_region_end) ?_
   refine f_ctl rfl (fun w => stepG_ret') ?_
   refine f_leave rfl rfl Try.func47 (fun w => ⟨?_, ?_⟩) (v := .slice (some ⟨g, 0, none⟩) ps.length ps.length) ?_
   · simp [results, Try.f47, go_sem]
   · rw [show (results Try.f47 _).events Try.prog w #[] = #[] by simp [results, Try.f47, go_sem]]
     rfl
   · exact next _ w hP
 | succ r ih =>
   intro k T A1 w hr hT t0 t3 t4 hP
   replace ih := Lib.hid ih
   clear next
   have hlt0 : k < ps.length := by omega
   obtain ⟨p, hp⟩ := get_some (l := ps) (k := k) hlt0
   obtain ⟨bk, off, rfl⟩ := hR0.addr (pgs_ne (by rintro rfl; simp at hlt0))
   have hR := hP.nx.xc.rc5 hR0 hp
   have hget : (ps.take k ++ (List.replicate ps.length pg0).drop k)[k]? = some pg0 := by
    rw [List.getElem?_append_right (by simp; omega), List.getElem?_drop, List.getElem?_replicate, if_pos (by simp; omega)]
   have hqs := Lib.hid (copy_step pg0 ps ps.length k p hp rfl)
   obtain ⟨qs, hqe⟩ : ∃ qs, ps.take k ++ (List.replicate ps.length pg0).drop k = qs := ⟨_, rfl⟩
   rw [hqe] at hP hget hqs
   have hg0 : w0.heap.size ≤ g := Nat.le_trans hw1 hP.new
   have hkl : (k : Int) < (ps.length : Int) := by omega
   have hk1 : IntKind.i64.wrap ((k : Int) + 1) = ((k + 1 : Nat) : Int) := by rw [IntKind.wrap_i64]; omega
   replace hr := Lib.hid hr
   clear hp hqe hlt0
   obtain ⟨v0, v1, v2, v3, v4, v5, v6, v7, v8, v9, v10, v11, v12, v13, v14, v15, v16, v17, v18, v19, v20, v21, v22, rfl⟩ := arrw23 T hT
   simp only [List.getElem?_toArray, List.getElem?_cons_succ, List.getElem?_cons_zero, Option.some.injEq] at t0 t3 t4
   subst t0 t3 t4
   refine f_ctl rfl (fun w => stepG_seq) ?_
   refine f_ctl rfl (fun w => stepG_seq) ?_
   refine f_ctl rfl (fun w => stepG_region) ?_
   simp only [List.size_toArray, List.length_cons, List.length_nil, Nat.reduceAdd, Nat.zero_add, List.range, List.range.loop]
   refine f_op rfl rfl (by k_ne) (fun w => ⟨run_eq_of (fun K hK => by go_simp; exact hK), listed_nil (by simp [go_sem, ev_min2, ev_max2, *])⟩) ?_
   walk_nrm
   refine f_op rfl rfl (by k_ne) (fun w => ⟨run_eq_of (fun K hK => by go_simp; exact hK), listed_nil (by simp [go_sem, ev_min2, ev_max2, *])⟩) ?_
   walk_nrm
   refine f_op rfl rfl (by k_ne) (fun w => ⟨run_eq_of (fun K hK => by go_simp; exact hK), listed_nil (by simp [go_sem, ev_min2, ev_max2, *])⟩) ?_
   walk_nrm
   refine f_op (v := .bool true) rfl rfl (by k_ne) (fun w => ⟨run_eq_of (fun K hK => by have h1 := hkl; go_simp; exact hK), listed_nil (by have h1 := hkl; simp [go_sem, ev_min2, ev_max2, *])⟩) ?_
   walk_nrm
   refine f_ctl rfl (fun w => stepG_region_end) ?_
   refine f_ctl rfl (fun w => stepG_cond (t := true) (by simp [Act.eval])) ?_
   simp only [if_true, Bool.false_eq_true, if_false]
   refine f_ctl rfl (fun w => stepG_skip) ?_
   refine f_ctl rfl (fun w => stepG_seq) ?_
   refine f_ctl rfl (fun w => stepG_block) ?_
   refine f_ctl rfl (fun w => stepG_region) ?_
   simp only [List.size_toArray, List.length_cons, List.length_nil, Nat.reduceAdd, Nat.zero_add, List.range, List.range.loop]
   refine f_op rfl rfl (by k_ne) (fun w => ⟨run_eq_of (fun K hK => by go_simp; exact hK), listed_nil (by simp [go_sem, ev_min2, ev_max2, *])⟩) ?_
   walk_nrm
   refine f_op rfl rfl (by k_ne) (fun w => ⟨run_eq_of (fun K hK => by go_simp; exact hK), listed_nil (by simp [go_sem, ev_min2, ev_max2, *])⟩) ?_
   walk_nrm
   refine f_op rfl rfl (by k_ne) (fun w => ⟨run_eq_of (fun K hK => by go_simp; exact hK), listed_nil (by simp [go_sem, ev_min2, ev_max2, *])⟩) ?_
   walk_nrm
   refine f_op rfl rfl (by k_ne) (fun w => ⟨run_eq_of (fun K hK => by go_simp; exact hK), listed_nil (by simp [go_sem, ev_min2, ev_max2, *])⟩) ?_
   walk_nrm
   refine f_op rfl rfl (by k_ne) (fun w => ⟨run_eq_of (fun K hK => by have h1 := hkl; go_simp; exact hK), listed_nil (by have h1 := hkl; simp [go_sem, ev_min2, ev_max2, *])⟩) ?_
   walk_nrm
   refine f_val (F := Rc5 SB bk (off + k * 5) p) Rc5.tp hR rfl rfl (by k_ne) (v := .agg #[.int .i64 p.state, .int .i64 p.rc.kind, .int .i64 p.rc.seq, .int .i64 p.rc.addr, .int .i64 p.rc.val]) (fun w hw => ⟨run_eq_of (fun K hK => by have h0 := hw.c0; have h1 := hw.c1; have h2 := hw.c2; have h3 := hw.c3; have h4 := hw.c4; go_simp; exact hK), by have h0 := hw.c0; have h1 := hw.c1; have h2 := hw.c2; have h3 := hw.c3; have h4 := hw.c4; intro e he; have hm := mem_listed he; simp [go_sem, *] at hm; rcases hm with rfl | rfl | rfl | rfl | rfl <;> exact ⟨hw.nsb, hw.lt⟩⟩) ?_
   walk_nrm
   refine f_enter rfl rfl (by k_ne) rfl Try.func66 rfl rfl ?_
   walk_nrm
   refine Xc.call hP.nx.xc (R := fun v _ => v = .agg #[.int .i64 p.state, .int .i64 p.rc.kind, .int .i64 p.rc.seq, .int .i64 p.rc.addr, .int .i64 p.rc.val]) (fun _ _ _ _ h => h) (by kernel_rfl) (fun v hx => by simp at hx; subst hx; exact .agg (fun v hv => by simp at hv; rcases hv with rfl | rfl | rfl | rfl | rfl <;> exact .int _ _)) (fun T d => (laws_toPage p _).mono fun e w' ⟨h1, h2⟩ => ⟨_, h1, rfl, h2⟩) ?_
   rintro A2 v w hN2 _ rfl
   replace hP := hP.more hN2
   clear hN2 hR
   rw [Frame.finish_at]
   walk_nrm
   refine f_op rfl rfl (by k_ne) (fun w => ⟨run_eq_of (fun K hK => by have h1 := hkl; go_simp; exact hK), listed_nil (by have h1 := hkl; simp [go_sem, ev_min2, ev_max2, *])⟩) ?_
   walk_nrm
   refine f_set (F := Pc SB A A2 w0 w1 g qs) (F' := Pc SB A A2 w0 w1 g (qs.set k p)) Pc.tp hP rfl rfl (by k_ne) (fun w => (((((w.setCell ⟨g, k * 5, none⟩ (.int .i64 p.state)).setCell ⟨g, k * 5 + 1, none⟩ (.int .i64 p.rc.kind)).setCell ⟨g, k * 5 + 2, none⟩ (.int .i64 p.rc.seq)).setCell ⟨g, k * 5 + 3, none⟩ (.int .i64 p.rc.addr)).setCell ⟨g, k * 5 + 4, none⟩ (.int .i64 p.rc.val))) (fun w hw => ⟨by obtain ⟨d0, d1, d2, d3, d4⟩ := hw.row.pg hget; obtain ⟨f0, f1, f2, f3, f4⟩ := hw.row.pgf hget; simp only [Nat.zero_add] at d0 d1 d2 d3 d4 f0 f1 f2 f3 f4; go_simp, by simp [World.setCell], by obtain ⟨d0, d1, d2, d3, d4⟩ := hw.row.pg hget; obtain ⟨f0, f1, f2, f3, f4⟩ := hw.row.pgf hget; simp only [Nat.zero_add] at d0 d1 d2 d3 d4 f0 f1 f2 f3 f4; intro e he; have hm := mem_listed he; simp [go_sem, *] at hm; rcases hm with rfl | rfl | rfl | rfl | rfl <;> exact hw.nx.xc.inn hw.ing, by simpa using hw.set hg0 hget p⟩) (fun w hP => ?_)
   walk_nrm
   refine f_ctl rfl (fun w => stepG_region_end) ?_
   refine f_ctl rfl (fun w => stepG_inBlock) ?_
   refine f_ctl rfl (fun w => stepG_region) ?_
   simp only [List.size_toArray, List.length_cons, List.length_nil, Nat.reduceAdd, Nat.zero_add, List.range, List.range.loop]
   refine f_op rfl rfl (by k_ne) (fun w => ⟨run_eq_of (fun K hK => by go_simp; exact hK), listed_nil (by simp [go_sem, ev_min2, ev_max2, *])⟩) ?_
   walk_nrm
   refine f_op (v := .int .i64 ((k + 1 : Nat) : Int)) rfl rfl (by k_ne) (fun w => ⟨run_eq_of (fun K hK => by have h1 := hk1; go_simp; exact hK), listed_nil (by have h1 := hk1; simp [go_sem, ev_min2, ev_max2, *])⟩) ?_
   walk_nrm
   refine f_op rfl rfl (by k_ne) (fun w => ⟨run_eq_of (fun K hK => by go_simp; exact hK), listed_nil (by simp [go_sem, ev_min2, ev_max2, *])⟩) ?_
   walk_nrm
   refine f_ctl rfl (fun w => stepG_region_end) ?_
   refine f_ctl rfl (fun w => stepG_inLoop) ?_
   exact ih.out (k + 1) _ _ w (by have := hr.out; omega) rfl rfl rfl rfl (by rw [hqs.out] at hP; exact hP)
theorem makes_n {P : Program} (t e : TypeId) (i : TypeInfo) (z : Value) (size bytes : Nat) (ht : P.underlying t = some (.slice e)) (hi : P.info? e = some i) (hz : i.zero = some z) (hs : i.size = size) (hb : i.bytes = bytes) (h0 : 0 < bytes) (n : Nat) (hn : n * bytes ≤ 1000000000) (w : World) :
 (Instr.makeSlice t (.int .i64 (n : Int)) (.int .i64 (n : Int))).events P w #[] = #[] := by
 subst hs; subst hb
 have h : (i.bytes : Int) * (n : Int) ≤ 281474976710656 := by
  have h' : ((i.bytes * n : Nat) : Int) ≤ 281474976710656 := by rw [Nat.mul_comm]; omega
  rwa [Int.natCast_mul] at h'
 have hn0 : n ≤ 1000000000 := Nat.le_trans (Nat.le_mul_of_pos_right n h0) hn
 have wl : IntKind.i64.wrap (n : Int) = n := by rw [IntKind.wrap_i64]; omega
 have n1 : ¬ (n : Int) < 0 := by omega
 have n2 : ¬ (281474976710656 < (i.bytes : Int) * n) := by omega
 have n5 : ¬ (roomBytes < n * i.bytes) := by unfold roomBytes; omega
 by_cases hn : n * i.size = 0
 · simp [Instr.makeSlice, go_sem, underlying, ht, asInt, asIntOf, typeInfo, hi, sizeOf, wl, n1, n2, n5, hn, newRow, askRoom]
 · simp [Instr.makeSlice, go_sem, underlying, ht, asInt, asIntOf, typeInfo, hi, sizeOf, zeroValue, hz, wl, n1, n2, n5, hn, newRow, askRoom]
theorem x_toPageS {ad : Option Addr} {c : Nat} {ps : List Pg} (hX : Xc SB A w0 w) (hl : ps.length ≤ 1048576) (hR : RRow w0 ad (pgs ps)) (next : ∀ A' w' g, Pc SB A A' w0 w g ps w' → Fine Try.prog Post SB (G (cc.finish (.slice (some ⟨g, 0, none⟩) ps.length ps.length)) rest) w') : Fine Try.prog Post SB (G (Frame.enter Try.prog 47 #[.slice ad ps.length c] .normal) (cc :: rest)) w := by
 obtain ⟨ip, hip, hpz0, hpz1, hpz2⟩ := info_parts Try.info3_page
 have hmk := fun W => run_make_n (P := Try.prog) 33 42 ip _ 5 40 Try.underlying33 hip hpz0 hpz1 hpz2 ps.length (by omega) (by omega) W
 have hme := fun W => makes_n (P := Try.prog) 33 42 ip _ 5 40 Try.underlying33 hip hpz0 hpz1 hpz2 (by omega) ps.length (by omega) W
 rw [enter_at _ Try.func47 rfl]
 walk_nrmf Try.f47
 refine f_ctl rfl (fun w => stepG_seq) ?_
 refine f_ctl rfl (fun w => stepG_region) ?_
 simp only [List.size_toArray, List.length_cons, List.length_nil, Nat.reduceAdd, Nat.zero_add, List.range, List.range.loop]
 refine f_op rfl rfl (by k_ne) (fun w => ⟨run_eq_of (fun K hK => by go_simp; exact hK), listed_nil (by simp [go_sem, ev_min2, ev_max2, *])⟩) ?_
 walk_nrm
 refine f_ctl rfl (fun w => stepG_region_end) ?_
 refine f_ctl rfl (fun w => stepG_seq) ?_
 refine f_ctl rfl (fun w => stepG_region) ?_
 simp only [List.size_toArray, List.length_cons, List.length_nil, Nat.reduceAdd, Nat.zero_add, List.range, List.range.loop]
 refine f_op rfl rfl (by k_ne) (fun w => ⟨run_eq_of (fun K hK => by go_simp; exact hK), listed_nil (by simp [go_sem, ev_min2, ev_max2, *])⟩) ?_
 walk_nrm
 refine f_op rfl rfl (by k_ne) (fun w => ⟨run_eq_of (fun K hK => by go_simp; exact hK), listed_nil (by simp [go_sem, ev_min2, ev_max2, *])⟩) ?_
 walk_nrm
 refine f_new (F := fun x => Nx SB A A w0 w x) (fun w T d h => h.tp T d) (Nx.refl hX) rfl rfl (by k_ne) (fun b => .slice (some ⟨b, 0, none⟩) ps.length ps.length) (.cells (madeCells #[.int .i64 0, .int .i64 0, .int .i64 0, .int .i64 0, .int .i64 0] (ps.length * 5)) 42) (fun w hw => ⟨by have h9 := hmk w; simp only [Value.cells] at h9; go_simp, listed_nil (by have h8 := hme w; simp [go_sem, *])⟩) (fun w hN => ?_)
 walk_nrm
 have hP := Pc.new_ (ps := ps) hN
 generalize ({ w with heap := w.heap.push (.cells (madeCells #[.int .i64 0, .int .i64 0, .int .i64 0, .int .i64 0, .int .i64 0] (ps.length * 5)) 42) } : World) = wx at hP ⊢
 obtain ⟨g, hg⟩ : ∃ g, w.heap.size = g := ⟨_, rfl⟩
 rw [hg] at hP ⊢
 refine f_op rfl rfl (by k_ne) (fun w => ⟨run_eq_of (fun K hK => by go_simp; exact hK), listed_nil (by simp [go_sem, ev_min2, ev_max2, *])⟩) ?_
 walk_nrm
 refine f_ctl rfl (fun w => stepG_region_end) ?_
 refine f_ctl rfl (fun w => stepG_seq) ?_
 refine f_ctl rfl (fun w => stepG_seq) ?_
 refine f_ctl rfl (fun w => stepG_region) ?_
 simp only [List.size_toArray, List.length_cons, List.length_nil, Nat.reduceAdd, Nat.zero_add, List.range, List.range.loop]
 refine f_op rfl rfl (by k_ne) (fun w => ⟨run_eq_of (fun K hK => by go_simp; exact hK), listed_nil (by simp [go_sem, ev_min2, ev_max2, *])⟩) ?_
 walk_nrm
 refine f_ctl rfl (fun w => stepG_region_end) ?_
 refine f_ctl rfl (fun w => stepG_block) ?_
 refine f_ctl rfl (fun w => stepG_loop) ?_
 have hin := fun T => tpIn (SB := SB) (A := A) (g := g) (Post := Post) (cc := cc) (rest := rest) (c := c) hX.co.bel.size hl hR (fun A' w' h => next A' w' _ h) ps.length 0 T (fun b => A b ∨ b = g) wx (by omega)
 simp only [tpL, tpT, Try.f47] at hin
 exact hin _ rfl rfl rfl rfl (by simpa using hP)
end
end Go.Proofs.Ytclnogfmmekooaa
namespace Go.Proofs.Ytclnogfmmekooaa
set_option linter.unusedVariables false
set_option linter.unusedSimpArgs false
open Go.Conc Go.ConcN Go.ConcR.Gen Go.RowKit
set_option maxRecDepth 100000
set_option maxHeartbeats 8000000
section
variable {SB A A' : Nat → Prop} {w0 w1 w : World} {Post : Value → World → Prop} {cc : Frame} {rest : List Frame}
/-- Blocks of one's own, not among what is held. -/
structure Ow (SB A A' : Nat → Prop) (w0 w1 : World) (H : List (Nat × Obj)) (w : World) : Prop where
 nx : Nx SB A A' w0 w1 w
 held : ∀ p ∈ H, w.heap[p.1]? = some p.2
 out : ∀ p ∈ H, ¬ A' p.1 ∧ w1.heap.size ≤ p.1 ∧ ¬ SB p.1
variable {H : List (Nat × Obj)}
theorem Ow.refl (h : Xc SB A w0 w) : Ow SB A A w0 w [] w := ⟨.refl h, by simp, by simp⟩
theorem Ow.tp (h : Ow SB A A' w0 w1 H w) (T : Nat → Question → Nat) (d : Nat) : Ow SB A A' w0 w1 H (Go.Proofs.Ytclnogfmmekooaa.tp w T d) := ⟨h.nx.tp T d, h.held, h.out⟩
theorem Ow.lt (h : Ow SB A A' w0 w1 H w) {p : Nat × Obj} (hp : p ∈ H) : p.1 < w.heap.size := (Array.getElem?_eq_some_iff.1 (h.held p hp)).1
theorem Ow.ev (h : Ow SB A A' w0 w1 H w) {p : Nat × Obj} (hp : p ∈ H) : ¬ SB p.1 ∧ p.1 < w.heap.size := ⟨(h.out p hp).2.2, h.lt hp⟩
theorem Ow.push (h : Ow SB A A' w0 w1 H w) (o : Obj) : Ow SB A A' w0 w1 ((w.heap.size, o) :: H) { w with heap := w.heap.push o } := by
 refine ⟨h.nx.push o, fun p hp => ?_, fun p hp => ?_⟩
 · rcases List.mem_cons.1 hp with rfl | hp
   · simp
   · exact (getElem?_push_old _ _ (h.lt hp)).trans (h.held p hp)
 · rcases List.mem_cons.1 hp with rfl | hp
   · exact ⟨fun x => by have := h.nx.xc.co.lt x; dsimp only at this; omega, h.nx.bel.size, fun x => by have := h.nx.xc.co.shun x; dsimp only at this; omega⟩
   · exact h.out p hp
theorem Ow.cell (h : Ow SB A A' w0 w1 H w) {b : Nat} {cs : Array Value} {t : TypeId} (hp : (b, Obj.cells cs t) ∈ H) (j : Nat) : w.cell? ⟨b, j, none⟩ = cs[j]? := by
 have := h.held _ hp
 simp [World.cell?, this]
theorem Ow.thaw (h : Ow SB A A' w0 w1 H w) {b : Nat} {cs : Array Value} {t : TypeId} (hp : (b, Obj.cells cs t) ∈ H) (j : Nat) : w.frozen? ⟨b, j, none⟩ = false := by
 have := h.held _ hp
 simp [World.frozen?, this]
theorem Ow.perm {H' : List (Nat × Obj)} (h : Ow SB A A' w0 w1 H w) (hs : ∀ p ∈ H', p ∈ H) : Ow SB A A' w0 w1 H' w := ⟨h.nx, fun p hp => h.held p (hs p hp), fun p hp => h.out p (hs p hp)⟩
theorem Ow.set {u j : Nat} {cs : Array Value} {t : TypeId} {v : Value} (h : Ow SB A A' w0 w1 ((u, .cells cs t) :: H) w) (hw1 : w0.heap.size ≤ w1.heap.size) (hne : ∀ p ∈ H, p.1 ≠ u) : Ow SB A A' w0 w1 ((u, .cells (cs.setIfInBounds j v) t) :: H) (w.setCell ⟨u, j, none⟩ v) := by
 have ho := h.out _ (List.mem_cons_self ..)
 dsimp only at ho
 have st : ∀ b, b ≠ u → (w.setCell ⟨u, j, none⟩ v).heap[b]? = w.heap[b]? := fun b hb => Below.heap_setCell w ⟨u, j, none⟩ v b hb
 refine ⟨⟨h.nx.grow, h.nx.fresh, h.nx.xc.setOut j v ho.1 (by omega), h.nx.bel.more (by simp [World.setCell]) rfl rfl fun b hb => st b (by omega)⟩, fun p hp => ?_, fun p hp => ?_⟩
 · rcases List.mem_cons.1 hp with rfl | hp
   · exact heap_set_same (h.held _ (List.mem_cons_self ..))
   · exact (st _ (hne p hp)).trans (h.held p (List.mem_cons_of_mem _ hp))
 · rcases List.mem_cons.1 hp with rfl | hp
   · exact ho
   · exact h.out p (List.mem_cons_of_mem _ hp)
/-- .. and a row of pages that was made. -/
structure Tw (SB A A' : Nat → Prop) (w0 w1 : World) (H : List (Nat × Obj)) (g : Nat) (ps : List Pg) (w : World) : Prop where
 ow : Ow SB A A' w0 w1 H w
 ing : A' g
 new : w1.heap.size ≤ g
 row : Row w (some ⟨g, 0, none⟩) (pgs ps)
 w1 : w0.heap.size ≤ w1.heap.size
variable {g : Nat} {ps : List Pg}
theorem Tw.tp (h : Tw SB A A' w0 w1 H g ps w) (T : Nat → Question → Nat) (d : Nat) : Tw SB A A' w0 w1 H g ps (Go.Proofs.Ytclnogfmmekooaa.tp w T d) := ⟨h.ow.tp T d, h.ing, h.new, h.row, h.w1⟩
theorem Tw.perm {H' : List (Nat × Obj)} (h : Tw SB A A' w0 w1 H g ps w) (hs : ∀ p ∈ H', p ∈ H) : Tw SB A A' w0 w1 H' g ps w := ⟨h.ow.perm hs, h.ing, h.new, h.row, h.w1⟩
theorem Tw.pc (h : Tw SB A A' w0 w1 H g ps w) : Pc SB A A' w0 w1 g ps w := ⟨h.ow.nx, h.ing, h.new, h.row⟩
theorem Tw.set {u j : Nat} {cs : Array Value} {t : TypeId} {v : Value} (h : Tw SB A A' w0 w1 ((u, .cells cs t) :: H) g ps w) (hne : ∀ p ∈ H, p.1 ≠ u) : Tw SB A A' w0 w1 ((u, .cells (cs.setIfInBounds j v) t) :: H) g ps (w.setCell ⟨u, j, none⟩ v) := by
 have hu : g ≠ u := fun e => (h.ow.out _ (List.mem_cons_self ..)).1 (e ▸ h.ing)
 refine ⟨h.ow.set h.w1 hne, h.ing, h.new, h.row.keep fun b hb _ => ?_, h.w1⟩
 rw [blk_some] at hb
 exact Below.heap_setCell w ⟨u, j, none⟩ v b (by show b ≠ u; omega)
theorem Ow.more {A2 : Nat → Prop} {w' : World} (h : Ow SB A A' w0 w1 H w) (hw1 : w0.heap.size ≤ w1.heap.size) (k : Pc SB A' A2 w0 w g ps w') : Tw SB A A2 w0 w1 H g ps w' := by
 have hb := h.nx.bel.size
 refine ⟨⟨h.nx.trans k.nx, fun p hp => (k.nx.bel.block _ (h.lt hp)).trans (h.held p hp), fun p hp => ⟨fun x => ?_, (h.out p hp).2⟩⟩, k.ing, Nat.le_trans hb k.new, k.row, ?_⟩
 · rcases k.nx.fresh _ x with x | x
   · exact (h.out p hp).1 x
   · have := h.lt hp; omega
 · exact hw1
theorem x_toBlock {ad : Option Addr} {c : Nat} {b : Bk} (hX : Xc SB A w0 w1) (hl : b.pages.length ≤ 1048576) (hR : RRow w0 ad (pgs b.pages)) (next : ∀ A' w' g, Pc SB A A' w0 w1 g b.pages w' → Fine Try.prog Post SB (G (cc.finish (.agg #[.slice (some ⟨g, 0, none⟩) b.pages.length b.pages.length, .int .i64 b.worn])) rest) w') : Fine Try.prog Post SB (G (Frame.enter Try.prog 30 #[.agg #[.slice ad b.pages.length c, .int .i64 b.worn]] .normal) (cc :: rest)) w1 := by
 rw [enter_at _ Try.func30 rfl]
 walk_nrmf Try.f30
 have hF : Ow SB A A w0 w1 [] w1 := Ow.refl hX
 refine f_ctl rfl (fun w => stepG_seq) ?_
 refine f_ctl rfl (fun w => stepG_region) ?_
 simp only [List.size_toArray, List.length_cons, List.length_nil, Nat.reduceAdd, Nat.zero_add, List.range, List.range.loop]
 refine f_new (F := Ow SB A A w0 w1 []) (fun w T d h => h.tp T d) hF rfl rfl (by k_ne) (fun b => .pointer (some ⟨b, 0, none⟩)) (.cells #[.slice ad b.pages.length c, .int .i64 b.worn] 50) (fun w hw => ⟨by go_simp, listed_nil (by simp [go_sem, *])⟩) (fun w hF => ?_)
 walk_nrm
 obtain ⟨b1, hV⟩ : ∃ V, w.heap.size = V := ⟨_, rfl⟩

 replace hF := hF.push (.cells #[.slice ad b.pages.length c, .int .i64 b.worn] 50)
 rw [hV] at hF ⊢
 generalize ({ w with heap := w.heap.push (.cells #[.slice ad b.pages.length c, .int .i64 b.worn] 50) } : World) = wx at hF ⊢
 clear hV
 refine f_new (F := Ow SB A A w0 w1 [(b1, .cells #[.slice ad b.pages.length c, .int .i64 b.worn] 50)]) (fun w T d h => h.tp T d) hF rfl rfl (by k_ne) (fun b => .pointer (some ⟨b, 0, none⟩)) (.cells #[.slice none 0 0, .int .i64 0] 35) (fun w hw => ⟨by go_simp, listed_nil (by simp [go_sem, *])⟩) (fun w hF => ?_)
 walk_nrm
 obtain ⟨b2, hV⟩ : ∃ V, w.heap.size = V := ⟨_, rfl⟩
 have ne_b2_b1 : b2 ≠ b1 := by have := hF.lt (p := (b1, .cells #[.slice ad b.pages.length c, .int .i64 b.worn] 50)) (by simp); omega
 replace hF := hF.push (.cells #[.slice none 0 0, .int .i64 0] 35)
 rw [hV] at hF ⊢
 generalize ({ w with heap := w.heap.push (.cells #[.slice none 0 0, .int .i64 0] 35) } : World) = wx at hF ⊢
 clear hV
 refine f_ctl rfl (fun w => stepG_region_end) ?_
 refine f_ctl rfl (fun w => stepG_seq) ?_
 refine f_ctl rfl (fun w => stepG_region) ?_
 simp only [List.size_toArray, List.length_cons, List.length_nil, Nat.reduceAdd, Nat.zero_add, List.range, List.range.loop]
 refine f_new (F := Ow SB A A w0 w1 [(b2, .cells #[.slice none 0 0, .int .i64 0] 35), (b1, .cells #[.slice ad b.pages.length c, .int .i64 b.worn] 50)]) (fun w T d h => h.tp T d) hF rfl rfl (by k_ne) (fun b => .pointer (some ⟨b, 0, none⟩)) (.cells #[.slice none 0 0, .int .i64 0] 35) (fun w hw => ⟨by go_simp, listed_nil (by simp [go_sem, *])⟩) (fun w hF => ?_)
 walk_nrm
 obtain ⟨b3, hV⟩ : ∃ V, w.heap.size = V := ⟨_, rfl⟩
 have ne_b3_b2 : b3 ≠ b2 := by have := hF.lt (p := (b2, .cells #[.slice none 0 0, .int .i64 0] 35)) (by simp); omega
 have ne_b3_b1 : b3 ≠ b1 := by have := hF.lt (p := (b1, .cells #[.slice ad b.pages.length c, .int .i64 b.worn] 50)) (by simp); omega
 replace hF := hF.push (.cells #[.slice none 0 0, .int .i64 0] 35)
 rw [hV] at hF ⊢
 generalize ({ w with heap := w.heap.push (.cells #[.slice none 0 0, .int .i64 0] 35) } : World) = wx at hF ⊢
 clear hV
 refine f_ctl rfl (fun w => stepG_region_end) ?_
 refine f_ctl rfl (fun w => stepG_seq) ?_
 refine f_ctl rfl (fun w => stepG_region) ?_
 simp only [List.size_toArray, List.length_cons, List.length_nil, Nat.reduceAdd, Nat.zero_add, List.range, List.range.loop]
 refine f_op rfl rfl (by k_ne) (fun w => ⟨run_eq_of (fun K hK => by go_simp; exact hK), listed_nil (by simp [go_sem, ev_min2, ev_max2, *])⟩) ?_
 walk_nrm
 refine f_val (F := Ow SB A A w0 w1 [(b3, .cells #[.slice none 0 0, .int .i64 0] 35), (b2, .cells #[.slice none 0 0, .int .i64 0] 35), (b1, .cells #[.slice ad b.pages.length c, .int .i64 b.worn] 50)]) (fun w T d h => h.tp T d) hF rfl rfl (by k_ne) (v := .slice ad b.pages.length c) (fun w hw => ⟨run_eq_of (fun K hK => by have h0 := (hw.cell (b := b1) (cs := #[.slice ad b.pages.length c, .int .i64 b.worn]) (t := 50) (by simp) 0).trans rfl; go_simp; exact hK), by have h0 := (hw.cell (b := b1) (cs := #[.slice ad b.pages.length c, .int .i64 b.worn]) (t := 50) (by simp) 0).trans rfl; intro e he; have hm := mem_listed he; simp [go_sem, *] at hm; subst hm; exact hw.ev (p := (b1, .cells #[.slice ad b.pages.length c, .int .i64 b.worn] 50)) (by simp)⟩) ?_
 walk_nrm
 refine f_enter rfl rfl (by k_ne) rfl Try.func47 rfl rfl ?_
 walk_nrm
 refine x_toPageS hF.nx.xc hl hR (fun A2 w g hP => ?_)
 have hF := hF.more hX.co.bel.size hP
 rw [Frame.finish_at]
 walk_nrm
 refine f_op rfl rfl (by k_ne) (fun w => ⟨run_eq_of (fun K hK => by go_simp; exact hK), listed_nil (by simp [go_sem, ev_min2, ev_max2, *])⟩) ?_
 walk_nrm
 have hne : ∀ p ∈ ([(b2, .cells #[.slice none 0 0, .int .i64 0] 35), (b1, .cells #[.slice ad b.pages.length c, .int .i64 b.worn] 50)] : List (Nat × Obj)), p.1 ≠ b3 := by
  intro p hp
  simp only [List.mem_cons, List.not_mem_nil, or_false] at hp
  rcases hp with rfl | rfl
  · exact ne_b3_b2.symm
  · exact ne_b3_b1.symm
 refine f_set (F := Tw SB A A2 w0 w1 [(b3, .cells #[.slice none 0 0, .int .i64 0] 35), (b2, .cells #[.slice none 0 0, .int .i64 0] 35), (b1, .cells #[.slice ad b.pages.length c, .int .i64 b.worn] 50)] g b.pages) (F' := Tw SB A A2 w0 w1 [(b3, .cells #[.slice (some ⟨g, 0, none⟩) b.pages.length b.pages.length, .int .i64 0] 35), (b2, .cells #[.slice none 0 0, .int .i64 0] 35), (b1, .cells #[.slice ad b.pages.length c, .int .i64 b.worn] 50)] g b.pages) (fun w T d h => h.tp T d) hF rfl rfl (by k_ne) (fun w => (w.setCell ⟨b3, 0, none⟩ (.slice (some ⟨g, 0, none⟩) b.pages.length b.pages.length))) (fun w hw => ⟨by have h0 := (hw.ow.cell (b := b3) (cs := #[.slice none 0 0, .int .i64 0]) (t := 35) (by simp) 0).trans rfl; have z0 := hw.ow.thaw (b := b3) (cs := #[.slice none 0 0, .int .i64 0]) (t := 35) (by simp) 0; go_simp, by simp [World.setCell], by have h0 := (hw.ow.cell (b := b3) (cs := #[.slice none 0 0, .int .i64 0]) (t := 35) (by simp) 0).trans rfl; have z0 := hw.ow.thaw (b := b3) (cs := #[.slice none 0 0, .int .i64 0]) (t := 35) (by simp) 0; intro e he; have hm := mem_listed he; simp [go_sem, *] at hm; subst hm; exact hw.ow.ev (p := (b3, .cells #[.slice none 0 0, .int .i64 0] 35)) (by simp), by simpa using (hw.set (j := 0) (v := .slice (some ⟨g, 0, none⟩) b.pages.length b.pages.length) hne)⟩) (fun w hF => ?_)
 clear hne
 walk_nrm
 refine f_ctl rfl (fun w => stepG_region_end) ?_
 refine f_ctl rfl (fun w => stepG_seq) ?_
 refine f_ctl rfl (fun w => stepG_region) ?_
 simp only [List.size_toArray, List.length_cons, List.length_nil, Nat.reduceAdd, Nat.zero_add, List.range, List.range.loop]
 refine f_op rfl rfl (by k_ne) (fun w => ⟨run_eq_of (fun K hK => by go_simp; exact hK), listed_nil (by simp [go_sem, ev_min2, ev_max2, *])⟩) ?_
 walk_nrm
 refine f_val (F := Tw SB A A2 w0 w1 [(b3, .cells #[.slice (some ⟨g, 0, none⟩) b.pages.length b.pages.length, .int .i64 0] 35), (b2, .cells #[.slice none 0 0, .int .i64 0] 35), (b1, .cells #[.slice ad b.pages.length c, .int .i64 b.worn] 50)] g b.pages) (fun w T d h => h.tp T d) hF rfl rfl (by k_ne) (v := .int .i64 b.worn) (fun w hw => ⟨run_eq_of (fun K hK => by have h1 := (hw.ow.cell (b := b1) (cs := #[.slice ad b.pages.length c, .int .i64 b.worn]) (t := 50) (by simp) 1).trans rfl; go_simp; exact hK), by have h1 := (hw.ow.cell (b := b1) (cs := #[.slice ad b.pages.length c, .int .i64 b.worn]) (t := 50) (by simp) 1).trans rfl; intro e he; have hm := mem_listed he; simp [go_sem, *] at hm; subst hm; exact hw.ow.ev (p := (b1, .cells #[.slice ad b.pages.length c, .int .i64 b.worn] 50)) (by simp)⟩) ?_
 walk_nrm
 refine f_op rfl rfl (by k_ne) (fun w => ⟨run_eq_of (fun K hK => by go_simp; exact hK), listed_nil (by simp [go_sem, ev_min2, ev_max2, *])⟩) ?_
 walk_nrm
 have hne : ∀ p ∈ ([(b2, .cells #[.slice none 0 0, .int .i64 0] 35), (b1, .cells #[.slice ad b.pages.length c, .int .i64 b.worn] 50)] : List (Nat × Obj)), p.1 ≠ b3 := by
  intro p hp
  simp only [List.mem_cons, List.not_mem_nil, or_false] at hp
  rcases hp with rfl | rfl
  · exact ne_b3_b2.symm
  · exact ne_b3_b1.symm
 refine f_set (F := Tw SB A A2 w0 w1 [(b3, .cells #[.slice (some ⟨g, 0, none⟩) b.pages.length b.pages.length, .int .i64 0] 35), (b2, .cells #[.slice none 0 0, .int .i64 0] 35), (b1, .cells #[.slice ad b.pages.length c, .int .i64 b.worn] 50)] g b.pages) (F' := Tw SB A A2 w0 w1 [(b3, .cells #[.slice (some ⟨g, 0, none⟩) b.pages.length b.pages.length, .int .i64 b.worn] 35), (b2, .cells #[.slice none 0 0, .int .i64 0] 35), (b1, .cells #[.slice ad b.pages.length c, .int .i64 b.worn] 50)] g b.pages) (fun w T d h => h.tp T d) hF rfl rfl (by k_ne) (fun w => (w.setCell ⟨b3, 1, none⟩ (.int .i64 b.worn))) (fun w hw => ⟨by have h1 := (hw.ow.cell (b := b3) (cs := #[.slice (some ⟨g, 0, none⟩) b.pages.length b.pages.length, .int .i64 0]) (t := 35) (by simp) 1).trans rfl; have z1 := hw.ow.thaw (b := b3) (cs := #[.slice (some ⟨g, 0, none⟩) b.pages.length b.pages.length, .int .i64 0]) (t := 35) (by simp) 1; go_simp, by simp [World.setCell], by have h1 := (hw.ow.cell (b := b3) (cs := #[.slice (some ⟨g, 0, none⟩) b.pages.length b.pages.length, .int .i64 0]) (t := 35) (by simp) 1).trans rfl; have z1 := hw.ow.thaw (b := b3) (cs := #[.slice (some ⟨g, 0, none⟩) b.pages.length b.pages.length, .int .i64 0]) (t := 35) (by simp) 1; intro e he; have hm := mem_listed he; simp [go_sem, *] at hm; subst hm; exact hw.ow.ev (p := (b3, .cells #[.slice (some ⟨g, 0, none⟩) b.pages.length b.pages.length, .int .i64 0] 35)) (by simp), by simpa using (hw.set (j := 1) (v := .int .i64 b.worn) hne)⟩) (fun w hF => ?_)
 clear hne
 walk_nrm
 refine f_ctl rfl (fun w => stepG_region_end) ?_
 refine f_ctl rfl (fun w => stepG_seq) ?_
 refine f_ctl rfl (fun w => stepG_region) ?_
 simp only [List.size_toArray, List.length_cons, List.length_nil, Nat.reduceAdd, Nat.zero_add, List.range, List.range.loop]
 refine f_val (F := Tw SB A A2 w0 w1 [(b3, .cells #[.slice (some ⟨g, 0, none⟩) b.pages.length b.pages.length, .int .i64 b.worn] 35), (b2, .cells #[.slice none 0 0, .int .i64 0] 35), (b1, .cells #[.slice ad b.pages.length c, .int .i64 b.worn] 50)] g b.pages) (fun w T d h => h.tp T d) hF rfl rfl (by k_ne) (v := .agg #[.slice (some ⟨g, 0, none⟩) b.pages.length b.pages.length, .int .i64 b.worn]) (fun w hw => ⟨run_eq_of (fun K hK => by have h0 := (hw.ow.cell (b := b3) (cs := #[.slice (some ⟨g, 0, none⟩) b.pages.length b.pages.length, .int .i64 b.worn]) (t := 35) (by simp) 0).trans rfl; have h1 := (hw.ow.cell (b := b3) (cs := #[.slice (some ⟨g, 0, none⟩) b.pages.length b.pages.length, .int .i64 b.worn]) (t := 35) (by simp) 1).trans rfl; go_simp; exact hK), by have h0 := (hw.ow.cell (b := b3) (cs := #[.slice (some ⟨g, 0, none⟩) b.pages.length b.pages.length, .int .i64 b.worn]) (t := 35) (by simp) 0).trans rfl; have h1 := (hw.ow.cell (b := b3) (cs := #[.slice (some ⟨g, 0, none⟩) b.pages.length b.pages.length, .int .i64 b.worn]) (t := 35) (by simp) 1).trans rfl; intro e he; have hm := mem_listed he; simp [go_sem, *] at hm; rcases hm with rfl | rfl <;> exact hw.ow.ev (p := (b3, .cells #[.slice (some ⟨g, 0, none⟩) b.pages.length b.pages.length, .int .i64 b.worn] 35)) (by simp)⟩) ?_
 walk_nrm
 replace hF : Tw SB A A2 w0 w1 [(b2, .cells #[.slice none 0 0, .int .i64 0] 35), (b3, .cells #[.slice (some ⟨g, 0, none⟩) b.pages.length b.pages.length, .int .i64 b.worn] 35), (b1, .cells #[.slice ad b.pages.length c, .int .i64 b.worn] 50)] g b.pages w := hF.perm (by intro p hp; simp only [List.mem_cons, List.not_mem_nil, or_false] at hp ⊢; rcases hp with h | h | h <;> simp [h])
 have hne : ∀ p ∈ ([(b3, .cells #[.slice (some ⟨g, 0, none⟩) b.pages.length b.pages.length, .int .i64 b.worn] 35), (b1, .cells #[.slice ad b.pages.length c, .int .i64 b.worn] 50)] : List (Nat × Obj)), p.1 ≠ b2 := by
  intro p hp
  simp only [List.mem_cons, List.not_mem_nil, or_false] at hp
  rcases hp with rfl | rfl
  · exact ne_b3_b2
  · exact ne_b2_b1.symm
 refine f_set (F := Tw SB A A2 w0 w1 [(b2, .cells #[.slice none 0 0, .int .i64 0] 35), (b3, .cells #[.slice (some ⟨g, 0, none⟩) b.pages.length b.pages.length, .int .i64 b.worn] 35), (b1, .cells #[.slice ad b.pages.length c, .int .i64 b.worn] 50)] g b.pages) (F' := Tw SB A A2 w0 w1 [(b2, .cells #[.slice (some ⟨g, 0, none⟩) b.pages.length b.pages.length, .int .i64 b.worn] 35), (b3, .cells #[.slice (some ⟨g, 0, none⟩) b.pages.length b.pages.length, .int .i64 b.worn] 35), (b1, .cells #[.slice ad b.pages.length c, .int .i64 b.worn] 50)] g b.pages) (fun w T d h => h.tp T d) hF rfl rfl (by k_ne) (fun w => ((w.setCell ⟨b2, 0, none⟩ (.slice (some ⟨g, 0, none⟩) b.pages.length b.pages.length)).setCell ⟨b2, 1, none⟩ (.int .i64 b.worn))) (fun w hw => ⟨by have h0 := (hw.ow.cell (b := b2) (cs := #[.slice none 0 0, .int .i64 0]) (t := 35) (by simp) 0).trans rfl; have z0 := hw.ow.thaw (b := b2) (cs := #[.slice none 0 0, .int .i64 0]) (t := 35) (by simp) 0; have h1 := (hw.ow.cell (b := b2) (cs := #[.slice none 0 0, .int .i64 0]) (t := 35) (by simp) 1).trans rfl; have z1 := hw.ow.thaw (b := b2) (cs := #[.slice none 0 0, .int .i64 0]) (t := 35) (by simp) 1; go_simp, by simp [World.setCell], by have h0 := (hw.ow.cell (b := b2) (cs := #[.slice none 0 0, .int .i64 0]) (t := 35) (by simp) 0).trans rfl; have z0 := hw.ow.thaw (b := b2) (cs := #[.slice none 0 0, .int .i64 0]) (t := 35) (by simp) 0; have h1 := (hw.ow.cell (b := b2) (cs := #[.slice none 0 0, .int .i64 0]) (t := 35) (by simp) 1).trans rfl; have z1 := hw.ow.thaw (b := b2) (cs := #[.slice none 0 0, .int .i64 0]) (t := 35) (by simp) 1; intro e he; have hm := mem_listed he; simp [go_sem, *] at hm; rcases hm with rfl | rfl <;> exact hw.ow.ev (p := (b2, .cells #[.slice none 0 0, .int .i64 0] 35)) (by simp), by simpa using ((hw.set (j := 0) (v := .slice (some ⟨g, 0, none⟩) b.pages.length b.pages.length) hne).set (j := 1) (v := .int .i64 b.worn) hne)⟩) (fun w hF => ?_)
 clear hne
 walk_nrm
 refine f_ctl rfl (fun w => stepG_region_end) ?_
 refine f_ctl rfl (fun w => stepG_ret') ?_
 refine f_leaveC (F := Tw SB A A2 w0 w1 [(b2, .cells #[.slice (some ⟨g, 0, none⟩) b.pages.length b.pages.length, .int .i64 b.worn] 35), (b3, .cells #[.slice (some ⟨g, 0, none⟩) b.pages.length b.pages.length, .int .i64 b.worn] 35), (b1, .cells #[.slice ad b.pages.length c, .int .i64 b.worn] 50)] g b.pages) (fun w T d h => h.tp T d) hF rfl rfl Try.func30 (fun w hw => ⟨?_, ?_⟩) (v := .agg #[.slice (some ⟨g, 0, none⟩) b.pages.length b.pages.length, .int .i64 b.worn]) ?_
 · exact results_cell_row rfl _ w b2 35 #[.slice (some ⟨g, 0, none⟩) b.pages.length b.pages.length, .int .i64 b.worn] (0, 0) _ rfl (hw.ow.held (b2, .cells #[.slice (some ⟨g, 0, none⟩) b.pages.length b.pages.length, .int .i64 b.worn] 35) (by simp)) Try.underlying35 rfl (by kernel_rfl)
 · intro e he
   have h0 := (hw.ow.cell (b := b2) (cs := #[.slice (some ⟨g, 0, none⟩) b.pages.length b.pages.length, .int .i64 b.worn]) (t := 35) (by simp) 0).trans rfl
   have h1 := (hw.ow.cell (b := b2) (cs := #[.slice (some ⟨g, 0, none⟩) b.pages.length b.pages.length, .int .i64 b.worn]) (t := 35) (by simp) 1).trans rfl
   have hm : e ∈ (results Try.f30 _).events Try.prog w #[] := mem_seen he
   simp [results, Try.f30, go_sem, *] at hm
   rcases hm with rfl | rfl <;> exact hw.ow.ev (p := (b2, .cells #[.slice (some ⟨g, 0, none⟩) b.pages.length b.pages.length, .int .i64 b.worn] 35)) (by simp)
 · exact next _ _ _ hF.pc
/-- A row of blocks being made. -/
structure Bc (SB A A' : Nat → Prop) (w0 w1 : World) (g : Nat) (f : List Bk) (ks : List (Option Addr × Nat)) (w : World) : Prop where
 nx : Nx SB A A' w0 w1 w
 ing : A' g
 new : w1.heap.size ≤ g
 bks : Bks w (some ⟨g, 0, none⟩) f ks
 apt : ∀ (j : Nat) (y : Option Addr × Nat), ks[j]? = some y → ¬ blk y.1 g
variable {fs : List Bk} {ks : List (Option Addr × Nat)}
theorem Bc.tp (h : Bc SB A A' w0 w1 g fs ks w) (T : Nat → Question → Nat) (d : Nat) : Bc SB A A' w0 w1 g fs ks (Go.Proofs.Ytclnogfmmekooaa.tp w T d) := ⟨h.nx.tp T d, h.ing, h.new, ⟨h.bks.len, h.bks.row, h.bks.pg⟩, h.apt⟩
theorem set_two {α : Type} {l : List α} {i j : Nat} {x y : α} (h : (l.set i x)[j]? = some y) : (j = i ∧ y = x) ∨ (j ≠ i ∧ l[j]? = some y) := by
 by_cases hj : j = i
 · subst hj
   have hl := (List.getElem?_eq_some_iff.1 h).1
   rw [List.getElem?_set_self (by simpa using hl)] at h
   cases h
   exact .inl ⟨rfl, rfl⟩
 · rw [List.getElem?_set_ne (by omega)] at h
   exact .inr ⟨hj, h⟩
/-- .. and a row of pages for it. -/
structure Br (SB A A' : Nat → Prop) (w0 w1 : World) (g : Nat) (f : List Bk) (ks : List (Option Addr × Nat)) (g2 : Nat) (ps : List Pg) (w : World) : Prop where
 bc : Bc SB A A' w0 w1 g f ks w
 ing : A' g2
 ne : g2 ≠ g
 row : Row w (some ⟨g2, 0, none⟩) (pgs ps)
variable {g2 : Nat}
theorem Br.tp (h : Br SB A A' w0 w1 g fs ks g2 ps w) (T : Nat → Question → Nat) (d : Nat) : Br SB A A' w0 w1 g fs ks g2 ps (Go.Proofs.Ytclnogfmmekooaa.tp w T d) := ⟨h.bc.tp T d, h.ing, h.ne, h.row⟩
theorem Bks.bel {w w' : World} {a : Option Addr} (h : Bks w a fs ks) (hb : Bel w w') : Bks w' a fs ks := by
 have : Bks { w' with tape := w.tape } a fs ks := h.below hb.bl (Nat.le_refl _)
 exact ⟨this.len, this.row, this.pg⟩
theorem Bc.more {A2 : Nat → Prop} {w' : World} (h : Bc SB A A' w0 w1 g fs ks w) (k : Pc SB A' A2 w0 w g2 ps w') : Br SB A A2 w0 w1 g fs ks g2 ps w' :=
 ⟨⟨h.nx.trans k.nx, k.nx.grow _ h.ing, h.new, h.bks.bel k.nx.bel, h.apt⟩, k.ing, fun e => by have := h.nx.xc.co.lt h.ing; have := k.new; omega, k.row⟩
theorem Br.set {k : Nat} {q b : Bk} (h : Br SB A A' w0 w1 g fs ks g2 b.pages w) (hg0 : w0.heap.size ≤ g) (hget : fs[k]? = some q) :
 Bc SB A A' w0 w1 g (fs.set k b) (ks.set k (some ⟨g2, 0, none⟩, b.pages.length)) ((w.setCell ⟨g, 0 + k * 2, none⟩ (.slice (some ⟨g2, 0, none⟩) b.pages.length b.pages.length)).setCell ⟨g, 0 + k * 2 + 1, none⟩ (.int .i64 b.worn)) := by
 have hW := wrote_hdr h.bc.bks hget (.slice (some ⟨g2, 0, none⟩) b.pages.length b.pages.length) (.int .i64 b.worn)
 have hx := (h.bc.nx.xc.setIn (0 + k * 2) (.slice (a := ⟨g2, 0, none⟩) b.pages.length b.pages.length ⟨h.ing, by simp [Cfg.lo, good]⟩) hg0).setIn (0 + k * 2 + 1) (.int .i64 b.worn) hg0
 refine ⟨h.bc.nx.wrote hx hW h.bc.new, h.bc.ing, h.bc.new, h.bc.bks.setBlock (i := k) (x := (some ⟨g2, 0, none⟩, b.pages.length)) (c := b) (List.getElem?_eq_some_iff.1 hget).1 h.bc.apt (by rw [blk_some]; exact h.ne) h.row (Nat.le_refl _) hW, fun j y hy => ?_⟩
 rcases set_two hy with ⟨_, rfl⟩ | ⟨_, hy⟩
 · rw [blk_some]; exact h.ne
 · exact h.bc.apt j y hy
theorem Bc.new_ {f : List Bk} (h : Nx SB A A w0 w1 w) : Bc SB A (fun b => A b ∨ b = w.heap.size) w0 w1 w.heap.size (List.replicate f.length zbk) (List.replicate f.length (none, 0)) { w with heap := w.heap.push (.cells (madeCells #[.slice none 0 0, .int .i64 0] (f.length * 2)) 35) } := by
 have hv : ∀ v ∈ madeCells #[Value.slice none 0 0, .int .i64 0] (f.length * 2), VIn (good none) A v := fun v hv => by
  rw [← Array.mem_toList_iff, made_list (fun _ : Unit => [Value.slice none 0 0, .int .i64 0]) () #[.slice none 0 0, .int .i64 0] 2 rfl rfl (by simp) f.length] at hv
  simp only [List.mem_flatMap] at hv
  obtain ⟨p, _, hp⟩ := hv
  simp only [List.mem_cons, List.not_mem_nil, or_false] at hp
  rcases hp with rfl | rfl
  · exact .slice0 _ _
  · exact .int _ _
 refine ⟨⟨fun b h => .inl h, fun b x => x.elim .inl (fun e => .inr (by have := h.bel.size; omega)), h.xc.pushIn fun r => .all hv, h.bel.trans ⟨rfl, rfl, by simp, fun b hb => getElem?_push_old _ _ hb⟩⟩, .inr rfl, h.bel.size, ?_, fun j y hy => ?_⟩
 · refine Bks.new w f.length _ _ ?_
   rw [made_list (fun _ : Unit => [Value.slice none 0 0, .int .i64 0]) () #[.slice none 0 0, .int .i64 0] 2 rfl rfl (by simp) f.length, hdrs_rep]
 · rw [List.getElem?_replicate] at hy
   split at hy
   · cases hy; intro x; cases x
   · cases hy
theorem arrv23 (T : Array Value) (h : T.size = 23) : ∃ v0 v1 v2 v3 v4 v5 v6 v7 v8 v9 v10 v11 v12 v13 v14 v15 v16 v17 v18 v19 v20 v21 v22, T = #[v0, v1, v2, v3, v4, v5, v6, v7, v8, v9, v10, v11, v12, v13, v14, v15, v16, v17, v18, v19, v20, v21, v22] := by
 obtain ⟨l⟩ := T
 replace h : l.length = 23 := h
 obtain ⟨v0, l0, e0, h⟩ := cons_of_len h
 obtain ⟨v1, l1, e1, h⟩ := cons_of_len h
 obtain ⟨v2, l2, e2, h⟩ := cons_of_len h
 obtain ⟨v3, l3, e3, h⟩ := cons_of_len h
 obtain ⟨v4, l4, e4, h⟩ := cons_of_len h
 obtain ⟨v5, l5, e5, h⟩ := cons_of_len h
 obtain ⟨v6, l6, e6, h⟩ := cons_of_len h
 obtain ⟨v7, l7, e7, h⟩ := cons_of_len h
 obtain ⟨v8, l8, e8, h⟩ := cons_of_len h
 obtain ⟨v9, l9, e9, h⟩ := cons_of_len h
 obtain ⟨v10, l10, e10, h⟩ := cons_of_len h
 obtain ⟨v11, l11, e11, h⟩ := cons_of_len h
 obtain ⟨v12, l12, e12, h⟩ := cons_of_len h
 obtain ⟨v13, l13, e13, h⟩ := cons_of_len h
 obtain ⟨v14, l14, e14, h⟩ := cons_of_len h
 obtain ⟨v15, l15, e15, h⟩ := cons_of_len h
 obtain ⟨v16, l16, e16, h⟩ := cons_of_len h
 obtain ⟨v17, l17, e17, h⟩ := cons_of_len h
 obtain ⟨v18, l18, e18, h⟩ := cons_of_len h
 obtain ⟨v19, l19, e19, h⟩ := cons_of_len h
 obtain ⟨v20, l20, e20, h⟩ := cons_of_len h
 obtain ⟨v21, l21, e21, h⟩ := cons_of_len h
 obtain ⟨v22, l22, e22, h⟩ := cons_of_len h
 have e := List.eq_nil_of_length_eq_zero h
 exact ⟨_, _, _, _, _, _, _, _, _, _, _, _, _, _, _, _, _, _, _, _, _, _, _, by rw [e0, e1, e2, e3, e4, e5, e6, e7, e8, e9, e10, e11, e12, e13, e14, e15, e16, e17, e18, e19, e20, e21, e22, e]⟩
noncomputable def tbL : Go.Code := match Try.f13.body with | some (.seq _ (.seq _ (.seq (.seq _ (.block _ (.loop c))) _))) => c | _ => .skip
noncomputable def tbT : Go.Code := match Try.f13.body with | some (.seq _ (.seq _ (.seq _ c))) => c | _ => .skip
theorem tbIn {ad : Option Addr} {c g : Nat} {f : List Bk} {hs : List (Option Addr × Nat)} (hw1 : w0.heap.size ≤ w1.heap.size) (hl : f.length ≤ 1048576) (hp : ∀ b ∈ f, b.pages.length ≤ 1048576) (hF : RBks w0 ad f hs) (next : ∀ A' ks w', Bc SB A A' w0 w1 g f ks w' → Fine Try.prog Post SB (G (cc.finish (.slice (some ⟨g, 0, none⟩) f.length f.length)) rest) w') :
 ∀ (r k : Nat) (T : Array Value) (A1 : Nat → Prop) (ks : List (Option Addr × Nat)) (w : World), k + r = f.length → T.size = 23 → T[0]? = some (.slice ad f.length c) → T[3]? = some (.slice (some ⟨g, 0, none⟩) f.length f.length) → T[4]? = some (.int .i64 (k : Int)) → Bc SB A A1 w0 w1 g (f.take k ++ (List.replicate f.length zbk).drop k) ks w → Fine Try.prog Post SB (G ((base 13).at ⟨T, []⟩ [.code tbL, .inLoop tbL, .inBlock 0, .code tbT]) (cc :: rest)) w := by
 simp only [tbL, tbT, Try.f13]
 intro r
 induction r with
 | zero =>
   intro k T A1 ks w hr hT t0 t3 t4 hB
   obtain rfl : k = f.length := by omega
   rw [List.take_of_length_le (Nat.le_refl _), List.drop_of_length_le (by simp), List.append_nil] at hB
   have hkx : ¬ (f.length : Int) < (f.length : Int) := by omega
   obtain ⟨v0, v1, v2, v3, v4, v5, v6, v7, v8, v9, v10, v11, v12, v13, v14, v15, v16, v17, v18, v19, v20, v21, v22, rfl⟩ := arrv23 T hT
   simp only [List.getElem?_toArray, List.getElem?_cons_succ, List.getElem?_cons_zero, Option.some.injEq] at t0 t3 t4
   subst t0 t3 t4
   refine f_ctl rfl (fun w => stepG_seq) ?_
   refine f_ctl rfl (fun w => stepG_seq) ?_
   refine f_ctl rfl (fun w => stepG_region) ?_
   simp only [List.size_toArray, List.length_cons, List.length_nil, Nat.reduceAdd, Nat.zero_add, List.range, List.range.loop]
   refine f_op rfl rfl (by k_ne) (fun w => ⟨run_eq_of (fun K hK => by go_simp; exact hK), listed_nil (by simp [go_sem, ev_min2, ev_max2, *])⟩) ?_
   walk_nrm
   refine f_op rfl rfl (by k_ne) (fun w => ⟨run_eq_of (fun K hK => by go_simp; exact hK), listed_nil (by simp [go_sem, ev_min2, ev_max2, *])⟩) ?_
   walk_nrm
   refine f_op rfl rfl (by k_ne) (fun w => ⟨run_eq_of (fun K hK => by go_simp; exact hK), listed_nil (by simp [go_sem, ev_min2, ev_max2, *])⟩) ?_
   walk_nrm
   refine f_op (v := .bool false) rfl rfl (by k_ne) (fun w => ⟨run_eq_of (fun K hK => by have h1 := hkx; go_simp; exact hK), listed_nil (by have h1 := hkx; simp [go_sem, ev_min2, ev_max2, *])⟩) ?_
   walk_nrm
   refine f_ctl rfl (fun w => stepG_region_end) ?_
   refine f_ctl rfl (fun w => stepG_cond (t := false) (by simp [Act.eval])) ?_
   simp only [if_true, Bool.false_eq_true, if_false]
   refine f_ctl rfl (fun w => stepG_exit rfl) ?_
   refine f_ctl rfl (fun w => stepG_seq) ?_
   refine f_ctl rfl (fun w => stepG_region) ?_
   simp only [List.size_toArray, List.length_cons, List.length_nil, Nat.reduceAdd, Nat.zero_add, List.range, List.range.loop]
   refine f_op rfl rfl (by k_ne) (fun w => ⟨run_eq_of (fun K hK => by go_simp; exact hK), listed_nil (by simp [go_sem, ev_min2, ev_max2, *])⟩) ?_
   walk_nrm
   refine f_op rfl rfl (by k_ne) (fun w => ⟨run_eq_of (fun K hK => by go_simp; exact hK), listed_nil (by simp [go_sem, ev_min2, ev_max2, *])⟩) ?_
   walk_nrm
   refine f_ctl rfl (fun w => stepG_region_end) ?_
   refine f_ctl rfl (fun w => stepG_ret') ?_
   refine f_leave rfl rfl Try.func13 (fun w => ⟨?_, ?_⟩) (v := .slice (some ⟨g, 0, none⟩) f.length f.length) ?_
   · simp [results, Try.f13, go_sem]
   · rw [show (results Try.f13 _).events Try.prog w #[] = #[] by simp [results, Try.f13, go_sem]]
     rfl
   · exact next _ _ w hB
 | succ r ih =>
   intro k T A1 ks w hr hT t0 t3 t4 hB
   replace ih := Lib.hid ih
   clear next
   have hlt0 : k < f.length := by omega
   obtain ⟨b, hb⟩ := get_some (l := f) (k := k) hlt0
   have hbl := hp b (List.mem_of_getElem? hb)
   obtain ⟨bk, off, rfl⟩ := hF.addr (by rintro rfl; simp at hlt0)
   obtain ⟨x, _, c0, c1, hRp⟩ := hF.at_ hb
   have hR := hB.nx.xc.rc2 c0 c1
   have hget : (f.take k ++ (List.replicate f.length zbk).drop k)[k]? = some zbk := by
    rw [List.getElem?_append_right (by simp; omega), List.getElem?_drop, List.getElem?_replicate, if_pos (by simp; omega)]
   have hqs := Lib.hid (copy_step zbk f f.length k b hb rfl)
   obtain ⟨fs, hqe⟩ : ∃ fs, f.take k ++ (List.replicate f.length zbk).drop k = fs := ⟨_, rfl⟩
   rw [hqe] at hB hget hqs
   have hg0 : w0.heap.size ≤ g := Nat.le_trans hw1 hB.new
   have hkl : (k : Int) < (f.length : Int) := by omega
   have hk1 : IntKind.i64.wrap ((k : Int) + 1) = ((k + 1 : Nat) : Int) := by rw [IntKind.wrap_i64]; omega
   replace hr := Lib.hid hr
   clear c0 c1 hb hqe hlt0
   obtain ⟨v0, v1, v2, v3, v4, v5, v6, v7, v8, v9, v10, v11, v12, v13, v14, v15, v16, v17, v18, v19, v20, v21, v22, rfl⟩ := arrv23 T hT
   simp only [List.getElem?_toArray, List.getElem?_cons_succ, List.getElem?_cons_zero, Option.some.injEq] at t0 t3 t4
   subst t0 t3 t4
   refine f_ctl rfl (fun w => stepG_seq) ?_
   refine f_ctl rfl (fun w => stepG_seq) ?_
   refine f_ctl rfl (fun w => stepG_region) ?_
   simp only [List.size_toArray, List.length_cons, List.length_nil, Nat.reduceAdd, Nat.zero_add, List.range, List.range.loop]
   refine f_op rfl rfl (by k_ne) (fun w => ⟨run_eq_of (fun K hK => by go_simp; exact hK), listed_nil (by simp [go_sem, ev_min2, ev_max2, *])⟩) ?_
   walk_nrm
   refine f_op rfl rfl (by k_ne) (fun w => ⟨run_eq_of (fun K hK => by go_simp; exact hK), listed_nil (by simp [go_sem, ev_min2, ev_max2, *])⟩) ?_
   walk_nrm
   refine f_op rfl rfl (by k_ne) (fun w => ⟨run_eq_of (fun K hK => by go_simp; exact hK), listed_nil (by simp [go_sem, ev_min2, ev_max2, *])⟩) ?_
   walk_nrm
   refine f_op (v := .bool true) rfl rfl (by k_ne) (fun w => ⟨run_eq_of (fun K hK => by have h1 := hkl; go_simp; exact hK), listed_nil (by have h1 := hkl; simp [go_sem, ev_min2, ev_max2, *])⟩) ?_
   walk_nrm
   refine f_ctl rfl (fun w => stepG_region_end) ?_
   refine f_ctl rfl (fun w => stepG_cond (t := true) (by simp [Act.eval])) ?_
   simp only [if_true, Bool.false_eq_true, if_false]
   refine f_ctl rfl (fun w => stepG_skip) ?_
   refine f_ctl rfl (fun w => stepG_seq) ?_
   refine f_ctl rfl (fun w => stepG_block) ?_
   refine f_ctl rfl (fun w => stepG_region) ?_
   simp only [List.size_toArray, List.length_cons, List.length_nil, Nat.reduceAdd, Nat.zero_add, List.range, List.range.loop]
   refine f_op rfl rfl (by k_ne) (fun w => ⟨run_eq_of (fun K hK => by go_simp; exact hK), listed_nil (by simp [go_sem, ev_min2, ev_max2, *])⟩) ?_
   walk_nrm
   refine f_op rfl rfl (by k_ne) (fun w => ⟨run_eq_of (fun K hK => by go_simp; exact hK), listed_nil (by simp [go_sem, ev_min2, ev_max2, *])⟩) ?_
   walk_nrm
   refine f_op rfl rfl (by k_ne) (fun w => ⟨run_eq_of (fun K hK => by go_simp; exact hK), listed_nil (by simp [go_sem, ev_min2, ev_max2, *])⟩) ?_
   walk_nrm
   refine f_op rfl rfl (by k_ne) (fun w => ⟨run_eq_of (fun K hK => by go_simp; exact hK), listed_nil (by simp [go_sem, ev_min2, ev_max2, *])⟩) ?_
   walk_nrm
   refine f_op rfl rfl (by k_ne) (fun w => ⟨run_eq_of (fun K hK => by have h1 := hkl; go_simp; exact hK), listed_nil (by have h1 := hkl; simp [go_sem, ev_min2, ev_max2, *])⟩) ?_
   walk_nrm
   refine f_val (F := Rc2 SB bk (off + k * 2) (.slice x.1 b.pages.length x.2) (.int .i64 b.worn)) Rc2.tp hR rfl rfl (by k_ne) (v := .agg #[.slice x.1 b.pages.length x.2, .int .i64 b.worn]) (fun w hw => ⟨run_eq_of (fun K hK => by have h0 := hw.c0; have h1 := hw.c1; go_simp; exact hK), by have h0 := hw.c0; have h1 := hw.c1; intro e he; have hm := mem_listed he; simp [go_sem, *] at hm; rcases hm with rfl | rfl <;> exact ⟨hw.nsb, hw.lt⟩⟩) ?_
   walk_nrm
   refine f_enter rfl rfl (by k_ne) rfl Try.func30 rfl rfl ?_
   walk_nrm
   refine x_toBlock hB.nx.xc hbl hRp (fun A2 w g2 hP => ?_)
   have hB2 := hB.more hP
   clear hB hR hP
   rw [Frame.finish_at]
   walk_nrm
   refine f_op rfl rfl (by k_ne) (fun w => ⟨run_eq_of (fun K hK => by have h1 := hkl; go_simp; exact hK), listed_nil (by have h1 := hkl; simp [go_sem, ev_min2, ev_max2, *])⟩) ?_
   walk_nrm
   refine f_set (F := Br SB A A2 w0 w1 g fs ks g2 b.pages) (F' := Bc SB A A2 w0 w1 g (fs.set k b) (ks.set k (some ⟨g2, 0, none⟩, b.pages.length))) (fun w T d h => h.tp T d) hB2 rfl rfl (by k_ne) (fun w => ((w.setCell ⟨g, k * 2, none⟩ (.slice (some ⟨g2, 0, none⟩) b.pages.length b.pages.length)).setCell ⟨g, k * 2 + 1, none⟩ (.int .i64 b.worn))) (fun w hw => ⟨by obtain ⟨_, _, z0, z1, z2, z3, _, _⟩ := hw.bc.bks.at_ hget; simp only [Nat.zero_add] at z0 z1 z2 z3; go_simp, by simp [World.setCell], by obtain ⟨_, _, z0, z1, z2, z3, _, _⟩ := hw.bc.bks.at_ hget; simp only [Nat.zero_add] at z0 z1 z2 z3; intro e he; have hm := mem_listed he; simp [go_sem, *] at hm; rcases hm with rfl | rfl <;> exact hw.bc.nx.xc.inn hw.bc.ing, by simpa using hw.set hg0 hget⟩) (fun w hB => ?_)
   walk_nrm
   refine f_ctl rfl (fun w => stepG_region_end) ?_
   refine f_ctl rfl (fun w => stepG_inBlock) ?_
   refine f_ctl rfl (fun w => stepG_region) ?_
   simp only [List.size_toArray, List.length_cons, List.length_nil, Nat.reduceAdd, Nat.zero_add, List.range, List.range.loop]
   refine f_op rfl rfl (by k_ne) (fun w => ⟨run_eq_of (fun K hK => by go_simp; exact hK), listed_nil (by simp [go_sem, ev_min2, ev_max2, *])⟩) ?_
   walk_nrm
   refine f_op (v := .int .i64 ((k + 1 : Nat) : Int)) rfl rfl (by k_ne) (fun w => ⟨run_eq_of (fun K hK => by have h1 := hk1; go_simp; exact hK), listed_nil (by have h1 := hk1; simp [go_sem, ev_min2, ev_max2, *])⟩) ?_
   walk_nrm
   refine f_op rfl rfl (by k_ne) (fun w => ⟨run_eq_of (fun K hK => by go_simp; exact hK), listed_nil (by simp [go_sem, ev_min2, ev_max2, *])⟩) ?_
   walk_nrm
   refine f_ctl rfl (fun w => stepG_region_end) ?_
   refine f_ctl rfl (fun w => stepG_inLoop) ?_
   exact ih.out (k + 1) _ _ _ w (by have := hr.out; omega) rfl rfl rfl rfl (by rw [hqs.out] at hB; exact hB)
theorem x_toBlockS {ad : Option Addr} {c : Nat} {f : List Bk} {hs : List (Option Addr × Nat)} (hX : Xc SB A w0 w) (hl : f.length ≤ 1048576) (hp : ∀ b ∈ f, b.pages.length ≤ 1048576) (hF : RBks w0 ad f hs) (next : ∀ A' w' g ks, Bc SB A A' w0 w g f ks w' → Fine Try.prog Post SB (G (cc.finish (.slice (some ⟨g, 0, none⟩) f.length f.length)) rest) w') : Fine Try.prog Post SB (G (Frame.enter Try.prog 13 #[.slice ad f.length c] .normal) (cc :: rest)) w := by
 obtain ⟨ib, hib, hbz0, hbz1, hbz2⟩ := info_parts Try.info3_block
 have hmk := fun W => run_make_n (P := Try.prog) 25 35 ib _ 2 32 Try.underlying25 hib hbz0 hbz1 hbz2 f.length (by omega) (by omega) W
 have hme := fun W => makes_n (P := Try.prog) 25 35 ib _ 2 32 Try.underlying25 hib hbz0 hbz1 hbz2 (by omega) f.length (by omega) W
 rw [enter_at _ Try.func13 rfl]
 walk_nrmf Try.f13
 refine f_ctl rfl (fun w => stepG_seq) ?_
 refine f_ctl rfl (fun w => stepG_region) ?_
 simp only [List.size_toArray, List.length_cons, List.length_nil, Nat.reduceAdd, Nat.zero_add, List.range, List.range.loop]
 refine f_op rfl rfl (by k_ne) (fun w => ⟨run_eq_of (fun K hK => by go_simp; exact hK), listed_nil (by simp [go_sem, ev_min2, ev_max2, *])⟩) ?_
 walk_nrm
 refine f_ctl rfl (fun w => stepG_region_end) ?_
 refine f_ctl rfl (fun w => stepG_seq) ?_
 refine f_ctl rfl (fun w => stepG_region) ?_
 simp only [List.size_toArray, List.length_cons, List.length_nil, Nat.reduceAdd, Nat.zero_add, List.range, List.range.loop]
 refine f_op rfl rfl (by k_ne) (fun w => ⟨run_eq_of (fun K hK => by go_simp; exact hK), listed_nil (by simp [go_sem, ev_min2, ev_max2, *])⟩) ?_
 walk_nrm
 refine f_op rfl rfl (by k_ne) (fun w => ⟨run_eq_of (fun K hK => by go_simp; exact hK), listed_nil (by simp [go_sem, ev_min2, ev_max2, *])⟩) ?_
 walk_nrm
 refine f_new (F := fun x => Nx SB A A w0 w x) (fun w T d h => h.tp T d) (Nx.refl hX) rfl rfl (by k_ne) (fun b => .slice (some ⟨b, 0, none⟩) f.length f.length) (.cells (madeCells #[.slice none 0 0, .int .i64 0] (f.length * 2)) 35) (fun w hw => ⟨by have h9 := hmk w; simp only [Value.cells] at h9; go_simp, listed_nil (by have h8 := hme w; simp [go_sem, *])⟩) (fun w hN => ?_)
 walk_nrm
 have hB := Bc.new_ (f := f) hN
 generalize ({ w with heap := w.heap.push (.cells (madeCells #[.slice none 0 0, .int .i64 0] (f.length * 2)) 35) } : World) = wx at hB ⊢
 obtain ⟨g, hg⟩ : ∃ g, w.heap.size = g := ⟨_, rfl⟩
 rw [hg] at hB ⊢
 refine f_op rfl rfl (by k_ne) (fun w => ⟨run_eq_of (fun K hK => by go_simp; exact hK), listed_nil (by simp [go_sem, ev_min2, ev_max2, *])⟩) ?_
 walk_nrm
 refine f_ctl rfl (fun w => stepG_region_end) ?_
 refine f_ctl rfl (fun w => stepG_seq) ?_
 refine f_ctl rfl (fun w => stepG_seq) ?_
 refine f_ctl rfl (fun w => stepG_region) ?_
 simp only [List.size_toArray, List.length_cons, List.length_nil, Nat.reduceAdd, Nat.zero_add, List.range, List.range.loop]
 refine f_op rfl rfl (by k_ne) (fun w => ⟨run_eq_of (fun K hK => by go_simp; exact hK), listed_nil (by simp [go_sem, ev_min2, ev_max2, *])⟩) ?_
 walk_nrm
 refine f_ctl rfl (fun w => stepG_region_end) ?_
 refine f_ctl rfl (fun w => stepG_block) ?_
 refine f_ctl rfl (fun w => stepG_loop) ?_
 have hin := fun T => tbIn (SB := SB) (A := A) (g := g) (Post := Post) (cc := cc) (rest := rest) (c := c) hX.co.bel.size hl hp hF (fun A' ks w' h => next A' w' _ ks h) f.length 0 T (fun b => A b ∨ b = g) (List.replicate f.length (none, 0)) wx (by omega)
 simp only [tbL, tbT, Try.f13] at hin
 exact hin _ rfl rfl rfl rfl (by simpa using hB)
end
end Go.Proofs.Ytclnogfmmekooaa
namespace Go.Proofs.Ytclnogfmmekooaa
set_option linter.unusedVariables false
set_option linter.unusedSimpArgs false
open Go.RowKit Go.Maps
set_option maxHeartbeats 4000000
set_option maxRecDepth 100000
def toS (a : Int) (b : Bk) : Int := a + (tornN b.pages : Int)
theorem tornN_cons (p : Pg) (ps : List Pg) : (tornN (p :: ps) : Int) = (if p.state = 2 then 1 else 0) + (tornN ps : Int) := by
 unfold tornN
 rw [List.countP_cons]
 by_cases h : p.state = 2 <;> simp [h] <;> omega
theorem spec_WearLost (f : List Bk) (A : Option Addr) (c : Nat) (w : World) (hlen : f.length < 1000000000000) (hF : Fl w A f) : Calls Try.prog 16 #[.slice A f.length c] w fun e w' => e = .returned (.int .i64 (if flashOk f then wTorn f else -1)) ∧ Below w.heap.size w w' := by
 by_cases hok : flashOk f = true
 · have hc := fun w hF => spec_FlashOk f A c w hlen hF
   rw [hok] at hc
   rw [hok]
   have h4 := (flash_four hok).1
   have hw := Lib.hid (flash_four hok).2
   have hS : Hid (wTorn f = (f.drop 0).foldl toS 0) := rfl
   have HL := Lib.hid h4
   clear hok h4
   have HC := Lib.hid hc
   clear hc
   go_enter Try.func16, Try.ntmps16
   go_wp2_with fail
   (with_reducible refine (HC.out _ hF).mono ?_)
   rintro e w1 ⟨rfl, hb1⟩
   obtain ⟨hs, hB⟩ := hF.below hb1 (Nat.le_refl _)
   obtain ⟨g, o, rfl⟩ := hB.addr (by rintro rfl; have := HL.out; simp at this)
   clear hF HC
   go_wp2
   go_loopw [3, 4] (fun q i wr => ∃ (k : Nat) (m : Int), k ≤ f.length ∧ i = .int .i64 k ∧ q = .int .i64 m ∧ wr = w1 ∧ Hid (wTorn f = (f.drop k).foldl toS m) ∧ Hid (0 ≤ m ∧ m ≤ 4 * k)) (fun _ i _ => f.length - (intOf i).toNat)
   case atStart => exact ⟨0, 0, by omega, rfl, rfl, rfl, hS, ⟨by omega, by omega⟩⟩
   case round =>
    clear hS
    obtain ⟨k, m, hk, rfl, rfl, rfl, hS, hM⟩ := hrel
    by_cases hlt : k < f.length
    · obtain ⟨b, hb⟩ := get_some hlt
      obtain ⟨⟨Ap, cp⟩, _, c0, c1, _, _, hR, _⟩ := hB.at_ hb
      have hd := Lib.hid (drop_cons hb)
      have hbl := (hw.out b (List.mem_of_getElem? hb)).1
      have hk1 : (k : Int) < f.length := by omega
      obtain ⟨ps, wn⟩ := b
      dsimp only at *
      rw [hbl] at c0
      have HBL := Lib.hid hbl
      have hT0 : Hid (wTorn f = (f.drop (k + 1)).foldl toS (m + (tornN (ps.drop 0) : Int))) := by rw [Hid, hS.out, hd.out]; rfl
      clear hb hS hd hbl
      go_wp2
      go_loopw [3, 5] (fun q j wl => ∃ (r : Nat) (n : Int), r ≤ 4 ∧ j = .int .i64 r ∧ q = .int .i64 n ∧ wl = wr ∧ Hid (wTorn f = (f.drop (k + 1)).foldl toS (n + (tornN (ps.drop r) : Int))) ∧ Hid (0 ≤ n ∧ n ≤ 4 * k + r)) (fun _ j _ => 4 - (intOf j).toNat)
      case atStart => exact ⟨0, m, by omega, rfl, rfl, rfl, hT0, by have := hM.out; exact ⟨by omega, by omega⟩⟩
      case round =>
       clear hT0
       obtain ⟨r, n, hr, rfl, rfl, rfl, hT, hN⟩ := hrel
       by_cases hltm : r < 4
       · obtain ⟨p, hq⟩ := get_some (l := ps) (k := r) (by rw [HBL.out]; exact hltm)
         obtain ⟨pb, po, rfl⟩ := hR.addr (pgs_ne (by rintro rfl; simp at hq))
         obtain ⟨p0, p1, p2, p3, p4⟩ := hR.pg hq
         have hd := Lib.hid (drop_cons hq)
         have hm1 : (r : Int) < 4 := by omega
         have hx : IntKind.i64.wrap (n + 1) = n + 1 := by have := hN.out; have := HL.out; rw [IntKind.wrap_i64]; omega
         clear hq
         by_cases h2 : p.state = 2
         · have hT2 : Hid (wTorn f = (f.drop (k + 1)).foldl toS (n + 1 + (tornN (ps.drop (r + 1)) : Int))) := by
            rw [Hid, hT.out, hd.out, tornN_cons, if_pos h2, Int.add_assoc]
           rw [h2] at p0
           clear h2 hT
           go_wp2
           go_roundw
           case rel => exact ⟨r + 1, n + 1, by omega, by go_num, by first | rfl | (rw [hx]), by trivial, hT2, by have := hN.out; exact ⟨by omega, by omega⟩⟩
           case measure => simp [intOf]; omega
         · have hT2 : Hid (wTorn f = (f.drop (k + 1)).foldl toS (n + (tornN (ps.drop (r + 1)) : Int))) := by
            rw [Hid, hT.out, hd.out, tornN_cons, if_neg h2, Int.zero_add]
           have h2' : (p.state == 2) = false := by simpa using h2
           clear hT
           go_wp2
           go_roundw
           case rel => exact ⟨r + 1, n, by omega, by go_num, rfl, by trivial, hT2, by have := hN.out; exact ⟨by omega, by omega⟩⟩
           case measure => simp [intOf]; omega
       · obtain rfl : r = 4 := by omega
         have hT2 : Hid (wTorn f = (f.drop (k + 1)).foldl toS n) := by
          have := hT.out
          rw [List.drop_of_length_le (by rw [HBL.out]; exact Nat.le_refl _)] at this
          rw [Hid, this, show (tornN [] : Int) = 0 from rfl, Int.add_zero]
         clear hT
         go_wp2
         go_roundw
         case rel => exact ⟨k + 1, n, by omega, by go_num, rfl, by trivial, hT2, by have := hN.out; exact ⟨by omega, by omega⟩⟩
         case measure => simp [intOf]; omega
    · obtain rfl : k = f.length := by omega
      have eS : m = wTorn f := by rw [hS.out, List.drop_of_length_le (Nat.le_refl _)]; rfl
      subst eS
      go_wp2
      go_ret
      exact ⟨ret_int (by first | rfl | (simp; done)), hb1⟩
 · have hc := fun w hF => spec_FlashOk f A c w hlen hF
   have hf : flashOk f = false := by simpa using hok
   rw [hf] at hc
   rw [hf]
   go_enter Try.func16, Try.ntmps16
   go_wp2_with fail
   (with_reducible refine (hc _ hF).mono ?_)
   rintro e w1 ⟨rfl, hb1⟩
   go_wp2
   go_ret
   exact ⟨ret_int (by simp), hb1⟩
end Go.Proofs.Ytclnogfmmekooaa
namespace Go.Proofs.Ytclnogfmmekooaa
set_option linter.unusedVariables false
set_option linter.unusedSimpArgs false
open Go.Conc Go.ConcN Go.ConcR.Gen Go.RowKit
set_option maxRecDepth 100000
set_option maxHeartbeats 8000000
theorem law_FnExactWearSpread {W : World} (A0 : Option Addr) (c : Nat) (f : List Bk) (hs : List (Option Addr × Nat)) (hn : f.length ≤ 9223372036854775807) (hp : ∀ b ∈ f, b.pages.length ≤ 9223372036854775807) (hF : RBks W A0 f hs) :
 Fine Try.prog (fun v w' => v = .bool true ∧ Bel W w') (fun _ => False) (G (Frame.enter Try.prog 3 #[.slice A0 f.length c] .normal) []) W := by
 have hX : Xc (fun _ => False) (fun _ => False) W W := ⟨⟨⟨fun r hr => hr.elim, fun c l h e => (by cases e)⟩, fun b hb => hb.elim, .refl W⟩, fun b hb => hb.elim⟩
 rw [enter_at _ Try.func3 rfl]
 walk_nrmf Try.f3
 refine f_ctl rfl (fun w => stepG_seq) ?_
 refine f_ctl rfl (fun w => stepG_region) ?_
 simp only [List.size_toArray, List.length_cons, List.length_nil, Nat.reduceAdd, Nat.zero_add, List.range, List.range.loop]
 refine f_op rfl rfl (by k_ne) (fun w => ⟨run_eq_of (fun K hK => by go_simp; exact hK), listed_nil (by simp [go_sem, ev_min2, ev_max2, *])⟩) ?_
 walk_nrm
 refine f_ctl rfl (fun w => stepG_region_end) ?_
 refine f_ctl rfl (fun w => stepG_seq) ?_
 refine f_ctl rfl (fun w => stepG_region) ?_
 simp only [List.size_toArray, List.length_cons, List.length_nil, Nat.reduceAdd, Nat.zero_add, List.range, List.range.loop]
 refine f_op rfl rfl (by k_ne) (fun w => ⟨run_eq_of (fun K hK => by go_simp; exact hK), listed_nil (by simp [go_sem, ev_min2, ev_max2, *])⟩) ?_
 walk_nrm
 refine f_ctl rfl (fun w => stepG_region_end) ?_
 refine f_ctl rfl (fun w => stepG_seq) ?_
 refine f_ctl rfl (fun w => stepG_region) ?_
 simp only [List.size_toArray, List.length_cons, List.length_nil, Nat.reduceAdd, Nat.zero_add, List.range, List.range.loop]
 refine f_op rfl rfl (by k_ne) (fun w => ⟨run_eq_of (fun K hK => by go_simp; exact hK), listed_nil (by simp [go_sem, ev_min2, ev_max2, *])⟩) ?_
 walk_nrm
 refine f_op rfl rfl (by k_ne) (fun w => ⟨run_eq_of (fun K hK => by go_simp; exact hK), listed_nil (by simp [go_sem, ev_min2, ev_max2, *])⟩) ?_
 walk_nrm
 refine f_enter rfl rfl (by k_ne) rfl Try.func11 rfl rfl ?_
 walk_nrm
 refine x_szBlockS hX (by omega) (by omega) hn hp hF (fun w hN => ?_)
 have hX2 := hN.xc
 clear hX hN
 have hX := hX2
 clear hX2
 rw [Frame.finish_at]
 walk_nrm
 refine f_op rfl rfl (by k_ne) (fun w => ⟨run_eq_of (fun K hK => by go_simp; exact hK), listed_nil (by simp [go_sem, ev_min2, ev_max2, *])⟩) ?_
 walk_nrm
 refine f_ctl rfl (fun w => stepG_region_end) ?_
 refine f_ctl rfl (fun w => stepG_seq) ?_
 refine f_ctl rfl (fun w => stepG_seq) ?_
 refine f_ctl rfl (fun w => stepG_region) ?_
 simp only [List.size_toArray, List.length_cons, List.length_nil, Nat.reduceAdd, Nat.zero_add, List.range, List.range.loop]
 refine f_op rfl rfl (by k_ne) (fun w => ⟨run_eq_of (fun K hK => by go_simp; exact hK), listed_nil (by simp [go_sem, ev_min2, ev_max2, *])⟩) ?_
 walk_nrm
 by_cases hsz : szFl 1048576 f < 0
 · skip
   refine f_op (v := .bool true) rfl rfl (by k_ne) (fun w => ⟨run_eq_of (fun K hK => by have h1 := hsz; go_simp; exact hK), listed_nil (by have h1 := hsz; simp [go_sem, ev_min2, ev_max2, *])⟩) ?_
   walk_nrm
   refine f_ctl rfl (fun w => stepG_region_end) ?_
   refine f_ctl rfl (fun w => stepG_cond (t := true) (by simp [Act.eval])) ?_
   simp only [if_true, Bool.false_eq_true, if_false]
   refine f_ctl rfl (fun w => stepG_seq) ?_
   refine f_ctl rfl (fun w => stepG_region) ?_
   simp only [List.size_toArray, List.length_cons, List.length_nil, Nat.reduceAdd, Nat.zero_add, List.range, List.range.loop]
   refine f_op rfl rfl (by k_ne) (fun w => ⟨run_eq_of (fun K hK => by go_simp; exact hK), listed_nil (by simp [go_sem, ev_min2, ev_max2, *])⟩) ?_
   walk_nrm
   refine f_ctl rfl (fun w => stepG_region_end) ?_
   refine f_ctl rfl (fun w => stepG_ret') ?_
   refine Fine.fin (A := fun _ => False) (T := fun _ _ => 0) (d := 0) rfl rfl rfl Try.func3 (by kernel_rfl) (v := .bool true) (fun w _ => ?_) (fun w _ e he => ?_) (fun T d => ⟨rfl, hX.co.bel.trans (Bel.tp _ T d)⟩)
   · simp [results, Try.f3, go_sem, Frame.at]
   · rw [show (results Try.f3 _).events Try.prog w #[] = #[] by simp [results, Try.f3, go_sem, Frame.at]] at he
     simp at he
 · have hsm := szFl_small (f := f) (by omega)
   have hlen : f.length < 1000000000000 := by omega
   have hpg : ∀ b ∈ f, b.pages.length < 1000000000000 := fun b hb => by have := hsm.2 b hb; omega
   replace hpg := Lib.hid hpg
   clear hn hp
   refine f_op (v := .bool false) rfl rfl (by k_ne) (fun w => ⟨run_eq_of (fun K hK => by have h1 := hsz; go_simp; exact hK), listed_nil (by have h1 := hsz; simp [go_sem, ev_min2, ev_max2, *])⟩) ?_
   walk_nrm
   refine f_ctl rfl (fun w => stepG_region_end) ?_
   refine f_ctl rfl (fun w => stepG_cond (t := false) (by simp [Act.eval])) ?_
   simp only [if_true, Bool.false_eq_true, if_false]
   refine f_ctl rfl (fun w => stepG_skip) ?_
   refine f_ctl rfl (fun w => stepG_seq) ?_
   refine f_ctl rfl (fun w => stepG_region) ?_
   simp only [List.size_toArray, List.length_cons, List.length_nil, Nat.reduceAdd, Nat.zero_add, List.range, List.range.loop]
   refine f_op rfl rfl (by k_ne) (fun w => ⟨run_eq_of (fun K hK => by go_simp; exact hK), listed_nil (by simp [go_sem, ev_min2, ev_max2, *])⟩) ?_
   walk_nrm
   refine f_enter rfl rfl (by k_ne) rfl Try.func13 rfl rfl ?_
   walk_nrm
   refine x_toBlockS hX hsm.1 hsm.2 hF (fun A w g_z ks hB => ?_)
   clear hX
   have hN := hB.nx

   have hv_z : VIn (good none) A (.slice (some ⟨g_z, 0, none⟩) f.length f.length) := .slice (a := ⟨g_z, 0, none⟩) _ _ ⟨hB.ing, by simp [Cfg.lo, good]⟩
   have hf_z : Fl w (some ⟨g_z, 0, none⟩) f := ⟨ks, hB.bks⟩
   have hX := hN.xc
   clear hN hB
   rw [Frame.finish_at]
   walk_nrm
   refine f_enter rfl rfl (by k_ne) rfl Try.func12 rfl rfl ?_
   walk_nrm
   refine Xc.call hX (R := fun v _ => v = .int .i64 (if flashOk f then wHi f - wLo f else -1)) (fun _ _ _ _ h => h) (by kernel_rfl) (fun v hx => by simp at hx; subst hx; exact hv_z) (fun T d => (spec_WearSpread f (some ⟨g_z, 0, none⟩) f.length (Go.Proofs.Ytclnogfmmekooaa.tp w T d) hlen (hf_z.bel (Bel.tp _ T d))).mono fun e w' ⟨h1, h2⟩ => ⟨_, h1, rfl, h2⟩) ?_
   clear hX
   rintro A v w hN _ rfl

   have hX := hN.xc
   clear hN
   rw [Frame.finish_at]
   walk_nrm
   refine f_op rfl rfl (by k_ne) (fun w => ⟨run_eq_of (fun K hK => by go_simp; exact hK), listed_nil (by simp [go_sem, ev_min2, ev_max2, *])⟩) ?_
   walk_nrm
   refine f_ctl rfl (fun w => stepG_region_end) ?_
   clear hv_z hf_z
   refine f_ctl rfl (fun w => stepG_seq) ?_
   refine f_ctl rfl (fun w => stepG_region) ?_
   simp only [List.size_toArray, List.length_cons, List.length_nil, Nat.reduceAdd, Nat.zero_add, List.range, List.range.loop]
   refine f_op rfl rfl (by k_ne) (fun w => ⟨run_eq_of (fun K hK => by go_simp; exact hK), listed_nil (by simp [go_sem, ev_min2, ev_max2, *])⟩) ?_
   walk_nrm
   refine f_enter rfl rfl (by k_ne) rfl Try.func13 rfl rfl ?_
   walk_nrm
   refine x_toBlockS hX hsm.1 hsm.2 hF (fun A w g_x ks hB => ?_)
   clear hX
   have hN := hB.nx

   have hv_x : VIn (good none) A (.slice (some ⟨g_x, 0, none⟩) f.length f.length) := .slice (a := ⟨g_x, 0, none⟩) _ _ ⟨hB.ing, by simp [Cfg.lo, good]⟩
   have hf_x : Fl w (some ⟨g_x, 0, none⟩) f := ⟨ks, hB.bks⟩
   have hX := hN.xc
   clear hN hB
   rw [Frame.finish_at]
   walk_nrm
   refine f_op rfl rfl (by k_ne) (fun w => ⟨run_eq_of (fun K hK => by go_simp; exact hK), listed_nil (by simp [go_sem, ev_min2, ev_max2, *])⟩) ?_
   walk_nrm
   refine f_ctl rfl (fun w => stepG_region_end) ?_
   refine f_ctl rfl (fun w => stepG_seq) ?_
   refine f_ctl rfl (fun w => stepG_region) ?_
   simp only [List.size_toArray, List.length_cons, List.length_nil, Nat.reduceAdd, Nat.zero_add, List.range, List.range.loop]
   refine f_op rfl rfl (by k_ne) (fun w => ⟨run_eq_of (fun K hK => by go_simp; exact hK), listed_nil (by simp [go_sem, ev_min2, ev_max2, *])⟩) ?_
   walk_nrm
   refine f_enter rfl rfl (by k_ne) rfl Try.func14 rfl rfl ?_
   walk_nrm
   refine Co.wearSpreadN hX.co hv_x (by rw [cutN]; exact hf_x) (fun w SB A hA hSB co hb => ?_)
   have hX2 : Xc SB A W w := ⟨co, fun b hb => (hSB b hb).elim (hX.sb b) id⟩
   clear hX hSB
   have hX := hX2
   replace hv_x := hv_x.mono hA
   replace hf_x := hf_x.bel hb
   clear hX2 co hb hA
   rw [Frame.finish_at]
   walk_nrm
   refine f_op rfl rfl (by k_ne) (fun w => ⟨run_eq_of (fun K hK => by go_simp; exact hK), listed_nil (by simp [go_sem, ev_min2, ev_max2, *])⟩) ?_
   walk_nrm
   refine f_ctl rfl (fun w => stepG_region_end) ?_
   refine f_ctl rfl (fun w => stepG_seq) ?_
   refine f_ctl rfl (fun w => stepG_seq) ?_
   refine f_ctl rfl (fun w => stepG_region) ?_
   simp only [List.size_toArray, List.length_cons, List.length_nil, Nat.reduceAdd, Nat.zero_add, List.range, List.range.loop]
   refine f_op rfl rfl (by k_ne) (fun w => ⟨run_eq_of (fun K hK => by go_simp; exact hK), listed_nil (by simp [go_sem, ev_min2, ev_max2, *])⟩) ?_
   walk_nrm
   refine f_op rfl rfl (by k_ne) (fun w => ⟨run_eq_of (fun K hK => by go_simp; exact hK), listed_nil (by simp [go_sem, ev_min2, ev_max2, *])⟩) ?_
   walk_nrm
   refine f_op (v := .bool false) rfl rfl (by k_ne) (fun w => ⟨run_eq_of (fun K hK => by go_simp; exact hK), listed_nil (by simp [go_sem, ev_min2, ev_max2, *])⟩) ?_
   walk_nrm
   refine f_ctl rfl (fun w => stepG_region_end) ?_
   refine f_ctl rfl (fun w => stepG_cond (t := false) (by simp [Act.eval])) ?_
   simp only [if_true, Bool.false_eq_true, if_false]
   refine f_ctl rfl (fun w => stepG_skip) ?_
   refine f_ctl rfl (fun w => stepG_seq) ?_
   refine f_ctl rfl (fun w => stepG_seq) ?_
   refine f_ctl rfl (fun w => stepG_region) ?_
   simp only [List.size_toArray, List.length_cons, List.length_nil, Nat.reduceAdd, Nat.zero_add, List.range, List.range.loop]
   refine f_op rfl rfl (by k_ne) (fun w => ⟨run_eq_of (fun K hK => by go_simp; exact hK), listed_nil (by simp [go_sem, ev_min2, ev_max2, *])⟩) ?_
   walk_nrm
   refine f_op rfl rfl (by k_ne) (fun w => ⟨run_eq_of (fun K hK => by go_simp; exact hK), listed_nil (by simp [go_sem, ev_min2, ev_max2, *])⟩) ?_
   walk_nrm
   refine f_enter rfl rfl (by k_ne) rfl Try.func13 rfl rfl ?_
   walk_nrm
   refine x_toBlockS hX hsm.1 hsm.2 hF (fun A w g_y ks hB => ?_)
   clear hX
   have hN := hB.nx
   replace hv_x := hv_x.mono hN.grow
   replace hf_x := hf_x.bel hN.bel
   have hv_y : VIn (good none) A (.slice (some ⟨g_y, 0, none⟩) f.length f.length) := .slice (a := ⟨g_y, 0, none⟩) _ _ ⟨hB.ing, by simp [Cfg.lo, good]⟩
   have hf_y : Fl w (some ⟨g_y, 0, none⟩) f := ⟨ks, hB.bks⟩
   have hX := hN.xc
   clear hN hB
   rw [Frame.finish_at]
   walk_nrm
   refine f_enter rfl rfl (by k_ne) rfl Try.func15 rfl rfl ?_
   walk_nrm
   refine Xc.call hX (R := fun v _ => v = .bool (decide (f = f))) (fun _ _ _ _ h => h) (by kernel_rfl) (fun v hx => by simp at hx; rcases hx with rfl | rfl; exact hv_x; exact hv_y) (fun T d => (laws_eqBlockS (some ⟨g_x, 0, none⟩) (some ⟨g_y, 0, none⟩) f.length f.length f f (Go.Proofs.Ytclnogfmmekooaa.tp w T d) hlen hlen hpg.out hpg.out (hf_x.bel (Bel.tp _ T d)) (hf_y.bel (Bel.tp _ T d))).mono fun e w' ⟨h1, h2⟩ => ⟨_, h1, rfl, h2⟩) ?_
   clear hX
   rintro A v w hN _ rfl

   have hX := hN.xc
   clear hN
   rw [Frame.finish_at]
   walk_nrm
   refine f_op (v := .bool false) rfl rfl (by k_ne) (fun w => ⟨run_eq_of (fun K hK => by go_simp; exact hK), listed_nil (by simp [go_sem, ev_min2, ev_max2, *])⟩) ?_
   walk_nrm
   refine f_ctl rfl (fun w => stepG_region_end) ?_
   refine f_ctl rfl (fun w => stepG_cond (t := false) (by simp [Act.eval])) ?_
   simp only [if_true, Bool.false_eq_true, if_false]
   refine f_ctl rfl (fun w => stepG_skip) ?_
   refine f_ctl rfl (fun w => stepG_seq) ?_
   refine f_ctl rfl (fun w => stepG_region) ?_
   simp only [List.size_toArray, List.length_cons, List.length_nil, Nat.reduceAdd, Nat.zero_add, List.range, List.range.loop]
   refine f_op rfl rfl (by k_ne) (fun w => ⟨run_eq_of (fun K hK => by go_simp; exact hK), listed_nil (by simp [go_sem, ev_min2, ev_max2, *])⟩) ?_
   walk_nrm
   refine f_ctl rfl (fun w => stepG_region_end) ?_
   refine f_ctl rfl (fun w => stepG_ret') ?_
   refine Fine.fin (A := fun _ => False) (T := fun _ _ => 0) (d := 0) rfl rfl rfl Try.func3 (by kernel_rfl) (v := .bool true) (fun w _ => ?_) (fun w _ e he => ?_) (fun T d => ⟨rfl, hX.co.bel.trans (Bel.tp _ T d)⟩)
   · simp [results, Try.f3, go_sem, Frame.at]
   · rw [show (results Try.f3 _).events Try.prog w #[] = #[] by simp [results, Try.f3, go_sem, Frame.at]] at he
     simp at he
theorem law_FnExactWearLost {W : World} (A0 : Option Addr) (c : Nat) (f : List Bk) (hs : List (Option Addr × Nat)) (hn : f.length ≤ 9223372036854775807) (hp : ∀ b ∈ f, b.pages.length ≤ 9223372036854775807) (hF : RBks W A0 f hs) :
 Fine Try.prog (fun v w' => v = .bool true ∧ Bel W w') (fun _ => False) (G (Frame.enter Try.prog 4 #[.slice A0 f.length c] .normal) []) W := by
 have hX : Xc (fun _ => False) (fun _ => False) W W := ⟨⟨⟨fun r hr => hr.elim, fun c l h e => (by cases e)⟩, fun b hb => hb.elim, .refl W⟩, fun b hb => hb.elim⟩
 rw [enter_at _ Try.func4 rfl]
 walk_nrmf Try.f4
 refine f_ctl rfl (fun w => stepG_seq) ?_
 refine f_ctl rfl (fun w => stepG_region) ?_
 simp only [List.size_toArray, List.length_cons, List.length_nil, Nat.reduceAdd, Nat.zero_add, List.range, List.range.loop]
 refine f_op rfl rfl (by k_ne) (fun w => ⟨run_eq_of (fun K hK => by go_simp; exact hK), listed_nil (by simp [go_sem, ev_min2, ev_max2, *])⟩) ?_
 walk_nrm
 refine f_ctl rfl (fun w => stepG_region_end) ?_
 refine f_ctl rfl (fun w => stepG_seq) ?_
 refine f_ctl rfl (fun w => stepG_region) ?_
 simp only [List.size_toArray, List.length_cons, List.length_nil, Nat.reduceAdd, Nat.zero_add, List.range, List.range.loop]
 refine f_op rfl rfl (by k_ne) (fun w => ⟨run_eq_of (fun K hK => by go_simp; exact hK), listed_nil (by simp [go_sem, ev_min2, ev_max2, *])⟩) ?_
 walk_nrm
 refine f_ctl rfl (fun w => stepG_region_end) ?_
 refine f_ctl rfl (fun w => stepG_seq) ?_
 refine f_ctl rfl (fun w => stepG_region) ?_
 simp only [List.size_toArray, List.length_cons, List.length_nil, Nat.reduceAdd, Nat.zero_add, List.range, List.range.loop]
 refine f_op rfl rfl (by k_ne) (fun w => ⟨run_eq_of (fun K hK => by go_simp; exact hK), listed_nil (by simp [go_sem, ev_min2, ev_max2, *])⟩) ?_
 walk_nrm
 refine f_op rfl rfl (by k_ne) (fun w => ⟨run_eq_of (fun K hK => by go_simp; exact hK), listed_nil (by simp [go_sem, ev_min2, ev_max2, *])⟩) ?_
 walk_nrm
 refine f_enter rfl rfl (by k_ne) rfl Try.func11 rfl rfl ?_
 walk_nrm
 refine x_szBlockS hX (by omega) (by omega) hn hp hF (fun w hN => ?_)
 have hX2 := hN.xc
 clear hX hN
 have hX := hX2
 clear hX2
 rw [Frame.finish_at]
 walk_nrm
 refine f_op rfl rfl (by k_ne) (fun w => ⟨run_eq_of (fun K hK => by go_simp; exact hK), listed_nil (by simp [go_sem, ev_min2, ev_max2, *])⟩) ?_
 walk_nrm
 refine f_ctl rfl (fun w => stepG_region_end) ?_
 refine f_ctl rfl (fun w => stepG_seq) ?_
 refine f_ctl rfl (fun w => stepG_seq) ?_
 refine f_ctl rfl (fun w => stepG_region) ?_
 simp only [List.size_toArray, List.length_cons, List.length_nil, Nat.reduceAdd, Nat.zero_add, List.range, List.range.loop]
 refine f_op rfl rfl (by k_ne) (fun w => ⟨run_eq_of (fun K hK => by go_simp; exact hK), listed_nil (by simp [go_sem, ev_min2, ev_max2, *])⟩) ?_
 walk_nrm
 by_cases hsz : szFl 1048576 f < 0
 · skip
   refine f_op (v := .bool true) rfl rfl (by k_ne) (fun w => ⟨run_eq_of (fun K hK => by have h1 := hsz; go_simp; exact hK), listed_nil (by have h1 := hsz; simp [go_sem, ev_min2, ev_max2, *])⟩) ?_
   walk_nrm
   refine f_ctl rfl (fun w => stepG_region_end) ?_
   refine f_ctl rfl (fun w => stepG_cond (t := true) (by simp [Act.eval])) ?_
   simp only [if_true, Bool.false_eq_true, if_false]
   refine f_ctl rfl (fun w => stepG_seq) ?_
   refine f_ctl rfl (fun w => stepG_region) ?_
   simp only [List.size_toArray, List.length_cons, List.length_nil, Nat.reduceAdd, Nat.zero_add, List.range, List.range.loop]
   refine f_op rfl rfl (by k_ne) (fun w => ⟨run_eq_of (fun K hK => by go_simp; exact hK), listed_nil (by simp [go_sem, ev_min2, ev_max2, *])⟩) ?_
   walk_nrm
   refine f_ctl rfl (fun w => stepG_region_end) ?_
   refine f_ctl rfl (fun w => stepG_ret') ?_
   refine Fine.fin (A := fun _ => False) (T := fun _ _ => 0) (d := 0) rfl rfl rfl Try.func4 (by kernel_rfl) (v := .bool true) (fun w _ => ?_) (fun w _ e he => ?_) (fun T d => ⟨rfl, hX.co.bel.trans (Bel.tp _ T d)⟩)
   · simp [results, Try.f4, go_sem, Frame.at]
   · rw [show (results Try.f4 _).events Try.prog w #[] = #[] by simp [results, Try.f4, go_sem, Frame.at]] at he
     simp at he
 · have hsm := szFl_small (f := f) (by omega)
   have hlen : f.length < 1000000000000 := by omega
   have hpg : ∀ b ∈ f, b.pages.length < 1000000000000 := fun b hb => by have := hsm.2 b hb; omega
   replace hpg := Lib.hid hpg
   clear hn hp
   refine f_op (v := .bool false) rfl rfl (by k_ne) (fun w => ⟨run_eq_of (fun K hK => by have h1 := hsz; go_simp; exact hK), listed_nil (by have h1 := hsz; simp [go_sem, ev_min2, ev_max2, *])⟩) ?_
   walk_nrm
   refine f_ctl rfl (fun w => stepG_region_end) ?_
   refine f_ctl rfl (fun w => stepG_cond (t := false) (by simp [Act.eval])) ?_
   simp only [if_true, Bool.false_eq_true, if_false]
   refine f_ctl rfl (fun w => stepG_skip) ?_
   refine f_ctl rfl (fun w => stepG_seq) ?_
   refine f_ctl rfl (fun w => stepG_region) ?_
   simp only [List.size_toArray, List.length_cons, List.length_nil, Nat.reduceAdd, Nat.zero_add, List.range, List.range.loop]
   refine f_op rfl rfl (by k_ne) (fun w => ⟨run_eq_of (fun K hK => by go_simp; exact hK), listed_nil (by simp [go_sem, ev_min2, ev_max2, *])⟩) ?_
   walk_nrm
   refine f_enter rfl rfl (by k_ne) rfl Try.func13 rfl rfl ?_
   walk_nrm
   refine x_toBlockS hX hsm.1 hsm.2 hF (fun A w g_z ks hB => ?_)
   clear hX
   have hN := hB.nx

   have hv_z : VIn (good none) A (.slice (some ⟨g_z, 0, none⟩) f.length f.length) := .slice (a := ⟨g_z, 0, none⟩) _ _ ⟨hB.ing, by simp [Cfg.lo, good]⟩
   have hf_z : Fl w (some ⟨g_z, 0, none⟩) f := ⟨ks, hB.bks⟩
   have hX := hN.xc
   clear hN hB
   rw [Frame.finish_at]
   walk_nrm
   refine f_enter rfl rfl (by k_ne) rfl Try.func16 rfl rfl ?_
   walk_nrm
   refine Xc.call hX (R := fun v _ => v = .int .i64 (if flashOk f then wTorn f else -1)) (fun _ _ _ _ h => h) (by kernel_rfl) (fun v hx => by simp at hx; subst hx; exact hv_z) (fun T d => (spec_WearLost f (some ⟨g_z, 0, none⟩) f.length (Go.Proofs.Ytclnogfmmekooaa.tp w T d) hlen (hf_z.bel (Bel.tp _ T d))).mono fun e w' ⟨h1, h2⟩ => ⟨_, h1, rfl, h2⟩) ?_
   clear hX
   rintro A v w hN _ rfl

   have hX := hN.xc
   clear hN
   rw [Frame.finish_at]
   walk_nrm
   refine f_op rfl rfl (by k_ne) (fun w => ⟨run_eq_of (fun K hK => by go_simp; exact hK), listed_nil (by simp [go_sem, ev_min2, ev_max2, *])⟩) ?_
   walk_nrm
   refine f_ctl rfl (fun w => stepG_region_end) ?_
   clear hv_z hf_z
   refine f_ctl rfl (fun w => stepG_seq) ?_
   refine f_ctl rfl (fun w => stepG_region) ?_
   simp only [List.size_toArray, List.length_cons, List.length_nil, Nat.reduceAdd, Nat.zero_add, List.range, List.range.loop]
   refine f_op rfl rfl (by k_ne) (fun w => ⟨run_eq_of (fun K hK => by go_simp; exact hK), listed_nil (by simp [go_sem, ev_min2, ev_max2, *])⟩) ?_
   walk_nrm
   refine f_enter rfl rfl (by k_ne) rfl Try.func13 rfl rfl ?_
   walk_nrm
   refine x_toBlockS hX hsm.1 hsm.2 hF (fun A w g_x ks hB => ?_)
   clear hX
   have hN := hB.nx

   have hv_x : VIn (good none) A (.slice (some ⟨g_x, 0, none⟩) f.length f.length) := .slice (a := ⟨g_x, 0, none⟩) _ _ ⟨hB.ing, by simp [Cfg.lo, good]⟩
   have hf_x : Fl w (some ⟨g_x, 0, none⟩) f := ⟨ks, hB.bks⟩
   have hX := hN.xc
   clear hN hB
   rw [Frame.finish_at]
   walk_nrm
   refine f_op rfl rfl (by k_ne) (fun w => ⟨run_eq_of (fun K hK => by go_simp; exact hK), listed_nil (by simp [go_sem, ev_min2, ev_max2, *])⟩) ?_
   walk_nrm
   refine f_ctl rfl (fun w => stepG_region_end) ?_
   refine f_ctl rfl (fun w => stepG_seq) ?_
   refine f_ctl rfl (fun w => stepG_region) ?_
   simp only [List.size_toArray, List.length_cons, List.length_nil, Nat.reduceAdd, Nat.zero_add, List.range, List.range.loop]
   refine f_op rfl rfl (by k_ne) (fun w => ⟨run_eq_of (fun K hK => by go_simp; exact hK), listed_nil (by simp [go_sem, ev_min2, ev_max2, *])⟩) ?_
   walk_nrm
   refine f_enter rfl rfl (by k_ne) rfl Try.func17 rfl rfl ?_
   walk_nrm
   refine Co.wearLostN hX.co hv_x (by rw [cutN]; exact hf_x) (fun w SB A hA hSB co hb => ?_)
   have hX2 : Xc SB A W w := ⟨co, fun b hb => (hSB b hb).elim (hX.sb b) id⟩
   clear hX hSB
   have hX := hX2
   replace hv_x := hv_x.mono hA
   replace hf_x := hf_x.bel hb
   clear hX2 co hb hA
   rw [Frame.finish_at]
   walk_nrm
   refine f_op rfl rfl (by k_ne) (fun w => ⟨run_eq_of (fun K hK => by go_simp; exact hK), listed_nil (by simp [go_sem, ev_min2, ev_max2, *])⟩) ?_
   walk_nrm
   refine f_ctl rfl (fun w => stepG_region_end) ?_
   refine f_ctl rfl (fun w => stepG_seq) ?_
   refine f_ctl rfl (fun w => stepG_seq) ?_
   refine f_ctl rfl (fun w => stepG_region) ?_
   simp only [List.size_toArray, List.length_cons, List.length_nil, Nat.reduceAdd, Nat.zero_add, List.range, List.range.loop]
   refine f_op rfl rfl (by k_ne) (fun w => ⟨run_eq_of (fun K hK => by go_simp; exact hK), listed_nil (by simp [go_sem, ev_min2, ev_max2, *])⟩) ?_
   walk_nrm
   refine f_op rfl rfl (by k_ne) (fun w => ⟨run_eq_of (fun K hK => by go_simp; exact hK), listed_nil (by simp [go_sem, ev_min2, ev_max2, *])⟩) ?_
   walk_nrm
   refine f_op (v := .bool false) rfl rfl (by k_ne) (fun w => ⟨run_eq_of (fun K hK => by go_simp; exact hK), listed_nil (by simp [go_sem, ev_min2, ev_max2, *])⟩) ?_
   walk_nrm
   refine f_ctl rfl (fun w => stepG_region_end) ?_
   refine f_ctl rfl (fun w => stepG_cond (t := false) (by simp [Act.eval])) ?_
   simp only [if_true, Bool.false_eq_true, if_false]
   refine f_ctl rfl (fun w => stepG_skip) ?_
   refine f_ctl rfl (fun w => stepG_seq) ?_
   refine f_ctl rfl (fun w => stepG_seq) ?_
   refine f_ctl rfl (fun w => stepG_region) ?_
   simp only [List.size_toArray, List.length_cons, List.length_nil, Nat.reduceAdd, Nat.zero_add, List.range, List.range.loop]
   refine f_op rfl rfl (by k_ne) (fun w => ⟨run_eq_of (fun K hK => by go_simp; exact hK), listed_nil (by simp [go_sem, ev_min2, ev_max2, *])⟩) ?_
   walk_nrm
   refine f_op rfl rfl (by k_ne) (fun w => ⟨run_eq_of (fun K hK => by go_simp; exact hK), listed_nil (by simp [go_sem, ev_min2, ev_max2, *])⟩) ?_
   walk_nrm
   refine f_enter rfl rfl (by k_ne) rfl Try.func13 rfl rfl ?_
   walk_nrm
   refine x_toBlockS hX hsm.1 hsm.2 hF (fun A w g_y ks hB => ?_)
   clear hX
   have hN := hB.nx
   replace hv_x := hv_x.mono hN.grow
   replace hf_x := hf_x.bel hN.bel
   have hv_y : VIn (good none) A (.slice (some ⟨g_y, 0, none⟩) f.length f.length) := .slice (a := ⟨g_y, 0, none⟩) _ _ ⟨hB.ing, by simp [Cfg.lo, good]⟩
   have hf_y : Fl w (some ⟨g_y, 0, none⟩) f := ⟨ks, hB.bks⟩
   have hX := hN.xc
   clear hN hB
   rw [Frame.finish_at]
   walk_nrm
   refine f_enter rfl rfl (by k_ne) rfl Try.func15 rfl rfl ?_
   walk_nrm
   refine Xc.call hX (R := fun v _ => v = .bool (decide (f = f))) (fun _ _ _ _ h => h) (by kernel_rfl) (fun v hx => by simp at hx; rcases hx with rfl | rfl; exact hv_x; exact hv_y) (fun T d => (laws_eqBlockS (some ⟨g_x, 0, none⟩) (some ⟨g_y, 0, none⟩) f.length f.length f f (Go.Proofs.Ytclnogfmmekooaa.tp w T d) hlen hlen hpg.out hpg.out (hf_x.bel (Bel.tp _ T d)) (hf_y.bel (Bel.tp _ T d))).mono fun e w' ⟨h1, h2⟩ => ⟨_, h1, rfl, h2⟩) ?_
   clear hX
   rintro A v w hN _ rfl

   have hX := hN.xc
   clear hN
   rw [Frame.finish_at]
   walk_nrm
   refine f_op (v := .bool false) rfl rfl (by k_ne) (fun w => ⟨run_eq_of (fun K hK => by go_simp; exact hK), listed_nil (by simp [go_sem, ev_min2, ev_max2, *])⟩) ?_
   walk_nrm
   refine f_ctl rfl (fun w => stepG_region_end) ?_
   refine f_ctl rfl (fun w => stepG_cond (t := false) (by simp [Act.eval])) ?_
   simp only [if_true, Bool.false_eq_true, if_false]
   refine f_ctl rfl (fun w => stepG_skip) ?_
   refine f_ctl rfl (fun w => stepG_seq) ?_
   refine f_ctl rfl (fun w => stepG_region) ?_
   simp only [List.size_toArray, List.length_cons, List.length_nil, Nat.reduceAdd, Nat.zero_add, List.range, List.range.loop]
   refine f_op rfl rfl (by k_ne) (fun w => ⟨run_eq_of (fun K hK => by go_simp; exact hK), listed_nil (by simp [go_sem, ev_min2, ev_max2, *])⟩) ?_
   walk_nrm
   refine f_ctl rfl (fun w => stepG_region_end) ?_
   refine f_ctl rfl (fun w => stepG_ret') ?_
   refine Fine.fin (A := fun _ => False) (T := fun _ _ => 0) (d := 0) rfl rfl rfl Try.func4 (by kernel_rfl) (v := .bool true) (fun w _ => ?_) (fun w _ e he => ?_) (fun T d => ⟨rfl, hX.co.bel.trans (Bel.tp _ T d)⟩)
   · simp [results, Try.f4, go_sem, Frame.at]
   · rw [show (results Try.f4 _).events Try.prog w #[] = #[] by simp [results, Try.f4, go_sem, Frame.at]] at he
     simp at he
end Go.Proofs.Ytclnogfmmekooaa
namespace Go.Proofs.Ytclnogfmmekooaa
set_option linter.unusedVariables false
set_option linter.unusedSimpArgs false
open Go.RowKit Go.ChangeShapes Go.WideShapes Go.Deep
set_option maxRecDepth 100000
instance : Inhabited Pg := ⟨⟨0, rc0⟩⟩
section
variable {H : Type} {enc : TypeId × Value → H} {w : World} {base fuel : Nat} {spare : Nat → Bool} {held : Bool}
theorem plain_addr {w : World} {a : Addr} {u : Value} (h : w.cell? a = some u) : ∃ b o, a = ⟨b, o, none⟩ := by
 obtain ⟨b, o, s⟩ := a
 cases s with
 | none => exact ⟨b, o, rfl⟩
 | some s =>
   have : w.cell? ⟨b, o, some s⟩ = none := by
    unfold World.cell?
    split
    · exact if_pos rfl
    · rfl
   rw [this] at h; cases h
theorem cellsOf_int : Try.prog.cellsOf 3 = 1 := by kernel_rfl
theorem cellsOf_lrec : Try.prog.cellsOf 111 = 4 := by kernel_rfl
theorem cellsOf_lpage : Try.prog.cellsOf 113 = 5 := by kernel_rfl
theorem cellsOf_lpages : Try.prog.cellsOf 48 = 1 := by kernel_rfl
theorem cellsOf_lblock : Try.prog.cellsOf 50 = 2 := by kernel_rfl
theorem rec_of {cs : List Value} {x : DataW H × List MemPlace} (h : DataW.trod enc Try.prog w base spare held fuel 111 cs = some x) : ∃ r : Rc, cs = r.vs := by
 obtain ⟨xs, n, _, _, hl, hx, hf⟩ := DataW.trod_struct Try.underlying111 h
 rw [cellsOf_lrec] at hl
 match cs, hl with
 | [c0, c1, c2, c3], _ =>
   match xs, hx with
   | [y0, y1, y2, y3], _ =>
     have h0 := hf 0 _ rfl
     have h1 := hf 1 _ rfl
     have h2 := hf 2 _ rfl
     have h3 := hf 3 _ rfl
     simp [cellsOf_int] at h0 h1 h2 h3
     obtain ⟨a, e0, _⟩ := DataW.trod_int Try.underlying3 h0
     obtain ⟨b, e1, _⟩ := DataW.trod_int Try.underlying3 h1
     obtain ⟨c, e2, _⟩ := DataW.trod_int Try.underlying3 h2
     obtain ⟨d, e3, _⟩ := DataW.trod_int Try.underlying3 h3
     simp at e0 e1 e2 e3
     subst e0; subst e1; subst e2; subst e3
     exact ⟨⟨a, b, c, d⟩, rfl⟩
theorem lpage_of {cs : List Value} {x : DataW H × List MemPlace} (h : DataW.trod enc Try.prog w base spare held fuel 113 cs = some x) : ∃ p : Pg, cs = p.vs := by
 obtain ⟨xs, n, _, _, hl, hx, hf⟩ := DataW.trod_struct Try.underlying113 h
 rw [cellsOf_lpage] at hl
 match cs, hl with
 | [c0, c1, c2, c3, c4], _ =>
   match xs, hx with
   | [y0, y1], _ =>
     have h0 := hf 0 _ rfl
     have h1 := hf 1 _ rfl
     simp [cellsOf_int] at h0
     simp [cellsOf_lrec] at h1
     obtain ⟨a, e0, _⟩ := DataW.trod_int Try.underlying3 h0
     obtain ⟨r, e1⟩ := rec_of h1
     simp [Rc.vs] at e0 e1
     obtain ⟨rfl, rfl, rfl, rfl⟩ := e1
     subst e0
     exact ⟨⟨a, r⟩, rfl⟩
/-- a row of elements of m cells each, read one by one, is a row of a list -/
theorem rrow_of {α : Type} [Inhabited α] (g : α → List Value) (m : Nat) (hg : ∀ x, (g x).length = m) (hm : 0 < m) {a : Addr} {n : Nat} (h : ∀ i, i < n → ∃ x : α, ∀ j u, (g x)[j]? = some u → w.cell? (a.add (i * m + j)) = some u) :
 ∃ l : List α, l.length = n ∧ RRow w (some a) (l.flatMap g) := by
 refine ⟨(List.range n).map fun i => if hi : i < n then Classical.choose (h i hi) else default, by simp, fun hne => ?_⟩
 have hn : 0 < n := by
  rcases Nat.eq_zero_or_pos n with rfl | hn
  · simp at hne
  · exact hn
 obtain ⟨x, hx⟩ := h 0 hn
 obtain ⟨u, hu⟩ := get_some (l := g x) (k := 0) (by rw [hg]; exact hm)
 obtain ⟨b, o, rfl⟩ := plain_addr (a := a) (u := u) (by simpa [Addr.add] using hx 0 u hu)
 refine ⟨b, o, rfl, fun j u hj => ?_⟩
 have hjl := (List.getElem?_eq_some_iff.1 hj).1
 rw [flat_len g m hg] at hjl
 simp at hjl
 have hi : j / m < n := Nat.div_lt_of_lt_mul (by rw [Nat.mul_comm]; exact hjl)
 have hd : j = j / m * m + j % m := by rw [Nat.mul_comm]; exact (Nat.div_add_mod j m).symm
 have hr : j % m < m := Nat.mod_lt _ hm
 have key := flat_get g m hg ((List.range n).map fun i => if hi : i < n then Classical.choose (h i hi) else default) (j / m) (j % m) (Classical.choose (h (j / m) hi)) (by rw [List.getElem?_map, List.getElem?_range hi]; simp [hi]) hr
 rw [← hd, hj] at key
 have := Classical.choose_spec (h (j / m) hi) (j % m) u key.symm
 rw [← hd, addr_add] at this
 exact this
theorem pages_of {cs : List Value} {x : DataW H × List MemPlace} (h : DataW.trod enc Try.prog w base spare held fuel 48 cs = some x) : ∃ A c ps, cs = [.slice A (List.length ps) c] ∧ List.length ps ≤ maxLen ∧ RRow w A (pgs ps) := by
 rcases open_slice Try.underlying48 h with ⟨rfl, _⟩ | ⟨a, len, cap, m, n, D, Pl, rfl, _, hlc, hcm, hm, _, hi⟩
 · exact ⟨none, 0, [], rfl, Nat.zero_le _, fun h => absurd rfl h⟩
 · have hlm : len ≤ m := by rw [hm]; split <;> omega
   obtain ⟨ps, hps, hr⟩ := rrow_of (α := Pg) (w := w) (a := a) (n := len) Pg.vs 5 (fun _ => rfl) (by omega) (fun i hlt => by
    obtain ⟨cs', hc, ht⟩ := hi i (by omega)
    obtain ⟨p, rfl⟩ := lpage_of ht
    obtain ⟨_, hl, hcell⟩ := World.cells?_some hc
    refine ⟨p, fun j u hj => ?_⟩
    have hj5 : j < 5 := (List.getElem?_eq_some_iff.1 hj).1
    have := hcell j (by rw [cellsOf_lpage]; exact hj5)
    rw [cellsOf_lpage] at this
    rw [← Go.Deep.add_add, this, hj])
   exact ⟨some a, cap, ps, by rw [hps], by omega, hr⟩
theorem block_of {cs : List Value} {x : DataW H × List MemPlace} (h : DataW.trod enc Try.prog w base spare held fuel 50 cs = some x) : ∃ (b : Bk) (y : Option Addr × Nat), cs = [.slice y.1 b.pages.length y.2, .int .i64 b.worn] ∧ b.pages.length ≤ maxLen ∧ RRow w y.1 (pgs b.pages) := by
 obtain ⟨xs, n, _, _, hl, hx, hf⟩ := DataW.trod_struct Try.underlying50 h
 rw [cellsOf_lblock] at hl
 match cs, hl with
 | [c0, c1], _ =>
   match xs, hx with
   | [y0, y1], _ =>
     have h0 := hf 0 _ rfl
     have h1 := hf 1 _ rfl
     simp [cellsOf_lpages] at h0
     simp [cellsOf_int] at h1
     obtain ⟨A, c, ps, e0, hml, hr⟩ := pages_of h0
     obtain ⟨n, e1, _⟩ := DataW.trod_int Try.underlying3 h1
     simp at e0 e1
     subst e0; subst e1
     exact ⟨⟨ps, n⟩, (A, c), rfl, hml, hr⟩
theorem blocks_of {cs : List Value} {x : DataW H × List MemPlace} (h : DataW.trod enc Try.prog w base spare held fuel 22 cs = some x) : ∃ A c f hs, cs = [.slice A (List.length f) c] ∧ List.length f ≤ maxLen ∧ (∀ b ∈ f, b.pages.length ≤ maxLen) ∧ RBks w A f hs := by
 rcases open_slice Try.underlying22 h with ⟨rfl, _⟩ | ⟨a, len, cap, m, n, D, Pl, rfl, _, hlc, hcm, hm, _, hi⟩
 · exact ⟨none, 0, [], [], rfl, Nat.zero_le _, by simp, ⟨rfl, fun h => absurd rfl h, fun _ _ _ h _ => absurd h (by simp)⟩⟩
 · have hlm : len ≤ m := by rw [hm]; split <;> omega
   have key : ∀ i, i < len → ∃ z : Bk × (Option Addr × Nat), (∀ j u, ([.slice z.2.1 z.1.pages.length z.2.2, .int .i64 z.1.worn] : List Value)[j]? = some u → w.cell? (a.add (i * 2 + j)) = some u) ∧ z.1.pages.length ≤ maxLen ∧ RRow w z.2.1 (pgs z.1.pages) := fun i hlt => by
    obtain ⟨cs', hc, ht⟩ := hi i (by omega)
    obtain ⟨b, y, rfl, hml, hr⟩ := block_of ht
    obtain ⟨_, hl, hcell⟩ := World.cells?_some hc
    refine ⟨(b, y), fun j u hj => ?_, hml, hr⟩
    have hj2 : j < 2 := (List.getElem?_eq_some_iff.1 hj).1
    have := hcell j (by rw [cellsOf_lblock]; exact hj2)
    rw [cellsOf_lblock] at this
    rw [← Go.Deep.add_add, this, hj]
   let Z : Nat → Bk × (Option Addr × Nat) := fun i => if hi : i < len then Classical.choose (key i hi) else (⟨[], 0⟩, (none, 0))
   have hZ : ∀ i, i < len → (∀ j u, ([.slice (Z i).2.1 (Z i).1.pages.length (Z i).2.2, .int .i64 (Z i).1.worn] : List Value)[j]? = some u → w.cell? (a.add (i * 2 + j)) = some u) ∧ (Z i).1.pages.length ≤ maxLen ∧ RRow w (Z i).2.1 (pgs (Z i).1.pages) := fun i hlt => by
    simp only [Z, dif_pos hlt]; exact Classical.choose_spec (key i hlt)
   refine ⟨some a, cap, (List.range len).map fun i => (Z i).1, (List.range len).map fun i => (Z i).2, by simp, by simp; omega, fun b hb => by
    obtain ⟨i, hi, rfl⟩ := List.mem_map.1 hb
    exact (hZ i (List.mem_range.1 hi)).2.1, ⟨by simp, fun hne => ?_, fun i b y hb hy => ?_⟩⟩
   · have e : ∀ l : List Nat, hdrs (l.map fun i => (Z i).1) (l.map fun i => (Z i).2) = l.flatMap fun i => [.slice (Z i).2.1 (Z i).1.pages.length (Z i).2.2, .int .i64 (Z i).1.worn] := by
      intro l
      induction l with
      | nil => rfl
      | cons x l ih => simp only [List.map_cons, hdrs, List.flatMap_cons, ih]; rfl
     rw [e] at hne ⊢
     have hn : 0 < len := by
      rcases Nat.eq_zero_or_pos len with h0 | h0
      · rw [h0] at hne; simp at hne
      · exact h0
     obtain ⟨b, o, rfl⟩ := plain_addr (a := a) (by simpa [Addr.add] using (hZ 0 hn).1 0 _ rfl)
     refine ⟨b, o, rfl, fun j u hj => ?_⟩
     have hjl := (List.getElem?_eq_some_iff.1 hj).1
     rw [flat_len _ 2 (fun _ => rfl)] at hjl
     simp at hjl
     have hi : j / 2 < len := by omega
     have hd : j = j / 2 * 2 + j % 2 := by omega
     have hf := flat_get (fun i => [Value.slice (Z i).2.1 (Z i).1.pages.length (Z i).2.2, .int .i64 (Z i).1.worn]) 2 (fun _ => rfl) (List.range len) (j / 2) (j % 2) (j / 2) (List.getElem?_range hi) (by omega)
     rw [← hd, hj] at hf
     have := (hZ _ hi).1 (j % 2) u hf.symm
     rw [← hd, addr_add] at this
     exact this
   · rw [List.getElem?_map] at hb hy
     have hi : i < len := by
      rcases Nat.lt_or_ge i len with h0 | h0
      · exact h0
      · rw [List.getElem?_eq_none (by simpa using h0)] at hb; cases hb
     rw [List.getElem?_range hi] at hb hy
     cases hb; cases hy
     exact (hZ i hi).2.2
end
end Go.Proofs.Ytclnogfmmekooaa
