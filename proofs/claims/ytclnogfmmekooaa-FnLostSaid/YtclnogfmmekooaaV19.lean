/- The law FnLost beside leavers. (Printed by genv18.py.) -/
import Derived.Test.YtclnogfmmekooaaV18
namespace Go.Proofs.Ytclnogfmmekooaa
set_option linter.unusedVariables false
set_option linter.unusedSimpArgs false
open Go.Conc Go.ConcN Go.ConcR.Gen Go.RowKit
set_option maxRecDepth 100000
set_option maxHeartbeats 8000000
theorem findOpen_at {w : World} {f : List Bk} {A : Option Addr} {c : Nat} {m : Int} {o : Bool} (hF : Fl w A f) (e : findOpen f = (m, o)) : Calls Try.prog 27 #[.slice A f.length c] w fun r w' => r = .returned (.tuple #[.int .i64 m, .bool o]) ∧ Below w.heap.size w w' := by
 have := impl_FindOpen f A f.length c w rfl hF
 rw [e] at this
 exact this
theorem findNext_at {w : World} {f : List Bk} {A : Option Addr} {c : Nat} {s : Int} (hF : Fl w A f) (e : findNext f = s) : Calls Try.prog 28 #[.slice A f.length c] w fun r w' => r = .returned (.int .i64 s) ∧ Below w.heap.size w w' := by
 have := impl_FindNext f A f.length c w rfl hF
 rw [e] at this
 exact this
theorem lostTail {Gd : Option (Nat × Nat × Nat)} {SB A : Nat → Prop} {w0 w : World} {g off d : Nat} {f : List Bk} {T : Array Value} (hok : flashOk f = true) (co : Co (good Gd) SB A w0 w) (hv_f : VIn (good Gd) A (.slice (some ⟨g, off, none⟩) f.length d)) (hf_f : Fl (cutW (good Gd) w) (some ⟨g, off, none⟩) f) (hvT : ∀ v ∈ T, VIn (good Gd) A v) (hT : T.size = 79) (t3 : T[3]? = some (.slice (some ⟨g, off, none⟩) f.length d)) :
 Fine Try.prog (fun v w' => v = .bool true ∧ Bel w0 w') SB (G ((base 10).at ⟨T, []⟩ [.code loT]) []) w := by
 simp only [loT, Try.f10]
 obtain ⟨v0, v1, v2, v3, v4, v5, v6, v7, v8, v9, v10, v11, v12, v13, v14, v15, v16, v17, v18, v19, v20, v21, v22, v23, v24, v25, v26, v27, v28, v29, v30, v31, v32, v33, v34, v35, v36, v37, v38, v39, v40, v41, v42, v43, v44, v45, v46, v47, v48, v49, v50, v51, v52, v53, v54, v55, v56, v57, v58, v59, v60, v61, v62, v63, v64, v65, v66, v67, v68, v69, v70, v71, v72, v73, v74, v75, v76, v77, v78, rfl⟩ := arrs79 T hT
 simp only [List.getElem?_toArray, List.getElem?_cons_succ, List.getElem?_cons_zero, Option.some.injEq] at t3
 subst t3
 refine f_ctl rfl (fun w => stepG_seq) ?_
 refine f_ctl rfl (fun w => stepG_region) ?_
 simp only [List.size_toArray, List.length_cons, List.length_nil, Nat.reduceAdd, Nat.zero_add, List.range, List.range.loop]
 refine f_op rfl rfl (by k_ne) (fun w => ⟨run_eq_of (fun K hK => by go_simp; exact hK), listed_nil (by simp [go_sem, ev_min2, ev_max2, *])⟩) ?_
 walk_nrm
 refine f_op rfl rfl (by k_ne) (fun w => ⟨run_eq_of (fun K hK => by go_simp; exact hK), listed_nil (by simp [go_sem, ev_min2, ev_max2, *])⟩) ?_
 walk_nrm
 refine f_ctl rfl (fun w => stepG_region_end) ?_
 refine f_ctl rfl (fun w => stepG_seq) ?_
 refine Co.wpR loQ loR co rfl (by kernel_rfl) (fun _ => rfl) (AllV.arr ?vin) rfl (fun a w T d ⟨T', A, c, h, h1, h2, h3, h4, h5⟩ => ⟨T', A, c, h, h1, h2, h3, h4.bel (Bel.pt w T d), h5⟩) (fun a w T d h => h) (fun T d' => ?lone) ?_ ?_
 case vin => repeat' (first | exact AllV.nil | (refine AllV.cons (by first | exact .int _ _ | exact .bool _ | exact hv_f | exact hvT _ (by simp)) ?_))
 case lone =>
  have hf := hf_f.bel (Bel.tp _ T d')
  have hp := fun Tx => loLoop (d := d) (Bel.tp (cutW (good Gd) w) T d') hok hf Tx
  simp only [loC, Try.f10] at hp
  exact hp _ rfl rfl rfl
 · clear co
   rintro A _ w hA co hb hvs ⟨T, ad, c, h, rfl, hT, t9, hf_h, ho, hz⟩
   have hv_h : VIn (good Gd) A (.slice ad h.length c) := hvs _ (Array.mem_of_getElem? t9)
   clear hb hA hvs
   obtain ⟨v0, v1, v2, v3, v4, v5, v6, v7, v8, v9, v10, v11, v12, v13, v14, v15, v16, v17, v18, v19, v20, v21, v22, v23, v24, v25, v26, v27, v28, v29, v30, v31, v32, v33, v34, v35, v36, v37, v38, v39, v40, v41, v42, v43, v44, v45, v46, v47, v48, v49, v50, v51, v52, v53, v54, v55, v56, v57, v58, v59, v60, v61, v62, v63, v64, v65, v66, v67, v68, v69, v70, v71, v72, v73, v74, v75, v76, v77, v78, rfl⟩ := arrs79 T hT
   simp only [List.getElem?_toArray, List.getElem?_cons_succ, List.getElem?_cons_zero, Option.some.injEq] at t9
   subst t9
   refine f_ctl rfl (fun w => stepG_seq) ?_
   refine f_ctl rfl (fun w => stepG_region) ?_
   simp only [List.size_toArray, List.length_cons, List.length_nil, Nat.reduceAdd, Nat.zero_add, List.range, List.range.loop]
   refine f_op rfl rfl (by k_ne) (fun w => ⟨run_eq_of (fun K hK => by go_simp; exact hK), listed_nil (by simp [go_sem, ev_min2, ev_max2, *])⟩) ?_
   walk_nrm
   refine f_enter rfl rfl (by k_ne) rfl Try.func17 rfl rfl ?_
   walk_nrm
   refine Co.wearLost co hv_h hf_h ?_
   clear co
   intro w SB A hA co hb
   replace hv_h := hv_h.mono hA
   replace hf_h := hf_h.bel hb.cut
   clear hb hA
   rw [Frame.finish_at]
   walk_nrm
   refine f_op (v := .bool true) rfl rfl (by k_ne) (fun w => ⟨run_eq_of (fun K hK => by have h9 := ho; have h8 := hz; go_simp; exact hK), listed_nil (by have h9 := ho; have h8 := hz; simp [go_sem, ev_min2, ev_max2, *])⟩) ?_
   walk_nrm
   refine f_op rfl rfl (by k_ne) (fun w => ⟨run_eq_of (fun K hK => by go_simp; exact hK), listed_nil (by simp [go_sem, ev_min2, ev_max2, *])⟩) ?_
   walk_nrm
   refine f_ctl rfl (fun w => stepG_region_end) ?_
   refine f_ctl rfl (fun w => stepG_ret') ?_
   refine Fine.fin (A := fun _ => False) (T := fun _ _ => 0) (d := 0) rfl rfl rfl Try.func10 (by kernel_rfl) (v := .bool true) (fun w _ => ?_) (fun w _ e he => ?_) (fun T d => ⟨rfl, co.bel.trans (Bel.tp _ T d)⟩)
   · simp [results, Try.f10, go_sem, Frame.at]
   · rw [show (results Try.f10 _).events Try.prog w #[] = #[] by simp [results, Try.f10, go_sem, Frame.at]] at he
     simp at he
 · clear co
   rintro A _ w todo hA co hb _ ⟨T, rfl, hT, t2⟩
   clear hb hA
   obtain ⟨v0, v1, v2, v3, v4, v5, v6, v7, v8, v9, v10, v11, v12, v13, v14, v15, v16, v17, v18, v19, v20, v21, v22, v23, v24, v25, v26, v27, v28, v29, v30, v31, v32, v33, v34, v35, v36, v37, v38, v39, v40, v41, v42, v43, v44, v45, v46, v47, v48, v49, v50, v51, v52, v53, v54, v55, v56, v57, v58, v59, v60, v61, v62, v63, v64, v65, v66, v67, v68, v69, v70, v71, v72, v73, v74, v75, v76, v77, v78, rfl⟩ := arrs79 T hT
   simp only [List.getElem?_toArray, List.getElem?_cons_succ, List.getElem?_cons_zero, Option.some.injEq] at t2
   subst t2
   refine Fine.fin (A := fun _ => False) (T := fun _ _ => 0) (d := 0) rfl rfl rfl Try.func10 (by kernel_rfl) (v := .bool true) (fun w _ => ?_) (fun w _ e he => ?_) (fun T d => ⟨rfl, co.bel.trans (Bel.tp _ T d)⟩)
   · simp [results, Try.f10, go_sem, Frame.at]
   · rw [show (results Try.f10 _).events Try.prog w #[] = #[] by simp [results, Try.f10, go_sem, Frame.at]] at he
     simp at he
theorem law_FnLost {W : World} (A0 : Option Addr) (bs : List Nat) (c : Nat) (hc : Code W A0 bs c) (hl : Lain W A0) :
 Fine Try.prog (fun v w' => v = .bool true ∧ Bel W w') (fun _ => False) (G (Frame.enter Try.prog 10 #[.slice A0 bs.length c] .normal) []) W := by
 obtain ⟨Gd, A, co, hv, hC⟩ := start_co hc hl
 rw [enter_at _ Try.func10 rfl]
 walk_nrmf Try.f10
 refine f_ctl rfl (fun w => stepG_seq) ?_
 refine f_ctl rfl (fun w => stepG_region) ?_
 simp only [List.size_toArray, List.length_cons, List.length_nil, Nat.reduceAdd, Nat.zero_add, List.range, List.range.loop]
 refine f_op rfl rfl (by k_ne) (fun w => ⟨run_eq_of (fun K hK => by go_simp; exact hK), listed_nil (by simp [go_sem, ev_min2, ev_max2, *])⟩) ?_
 walk_nrm
 refine f_ctl rfl (fun w => stepG_region_end) ?_
 refine f_ctl rfl (fun w => stepG_seq) ?_
 refine f_ctl rfl (fun w => stepG_seq) ?_
 refine f_ctl rfl (fun w => stepG_region) ?_
 simp only [List.size_toArray, List.length_cons, List.length_nil, Nat.reduceAdd, Nat.zero_add, List.range, List.range.loop]
 refine f_op rfl rfl (by k_ne) (fun w => ⟨run_eq_of (fun K hK => by go_simp; exact hK), listed_nil (by simp [go_sem, ev_min2, ev_max2, *])⟩) ?_
 walk_nrm
 refine f_op rfl rfl (by k_ne) (fun w => ⟨run_eq_of (fun K hK => by go_simp; exact hK), listed_nil (by simp [go_sem, ev_min2, ev_max2, *])⟩) ?_
 walk_nrm
 by_cases hlen : (1048576 : Int) < bs.length
 · clear co hv hC
   refine f_op (v := .bool true) rfl rfl (by k_ne) (fun w => ⟨run_eq_of (fun K hK => by have h9 := hlen; go_simp; exact hK), listed_nil (by have h9 := hlen; simp [go_sem, ev_min2, ev_max2, *])⟩) ?_
   walk_nrm
   refine f_ctl rfl (fun w => stepG_region_end) ?_
   refine f_ctl rfl (fun w => stepG_cond (t := true) (by simp [Act.eval])) ?_
   simp only [if_true, Bool.false_eq_true, if_false]
   refine f_ctl rfl (fun w => stepG_seq) ?_
   refine f_ctl rfl (fun w => stepG_region) ?_
   simp only [List.size_toArray, List.length_cons, List.length_nil, Nat.reduceAdd, Nat.zero_add, List.range, List.range.loop]
   refine f_op rfl rfl (by k_ne) (fun w => ⟨run_eq_of (fun K hK => by go_simp; exact hK), listed_nil (by simp [go_sem, ev_min2, ev_max2, *])⟩) ?_
   walk_nrm
   refine f_ctl rfl (fun w => stepG_region_end) ?_
   refine f_ctl rfl (fun w => stepG_ret') ?_
   refine Fine.fin (A := fun _ => False) (T := fun _ _ => 0) (d := 0) rfl rfl rfl Try.func10 (by kernel_rfl) (v := .bool true) (fun w _ => ?_) (fun w _ e he => ?_) (fun T d => ⟨rfl, Bel.tp _ T d⟩)
   · simp [results, Try.f10, go_sem, Frame.at]
   · rw [show (results Try.f10 _).events Try.prog w #[] = #[] by simp [results, Try.f10, go_sem, Frame.at]] at he
     simp at he
 · have hlen2 : ¬ (1048576 : Int) < bs.length := hlen
   refine f_op (v := .bool false) rfl rfl (by k_ne) (fun w => ⟨run_eq_of (fun K hK => by have h9 := hlen; go_simp; exact hK), listed_nil (by have h9 := hlen; simp [go_sem, ev_min2, ev_max2, *])⟩) ?_
   walk_nrm
   refine f_ctl rfl (fun w => stepG_region_end) ?_
   refine f_ctl rfl (fun w => stepG_cond (t := false) (by simp [Act.eval])) ?_
   simp only [if_true, Bool.false_eq_true, if_false]
   refine f_ctl rfl (fun w => stepG_skip) ?_
   refine f_ctl rfl (fun w => stepG_seq) ?_
   refine f_ctl rfl (fun w => stepG_region) ?_
   simp only [List.size_toArray, List.length_cons, List.length_nil, Nat.reduceAdd, Nat.zero_add, List.range, List.range.loop]
   refine f_op rfl rfl (by k_ne) (fun w => ⟨run_eq_of (fun K hK => by go_simp; exact hK), listed_nil (by simp [go_sem, ev_min2, ev_max2, *])⟩) ?_
   walk_nrm
   refine f_enter rfl rfl (by k_ne) rfl Try.func23 rfl rfl ?_
   walk_nrm
   refine Co.call co (R := fun v w' => ∃ (g o d : Nat) (f : List Bk), v = .slice (some ⟨g, o, none⟩) f.length d ∧ flSmall f ∧ Fl w' (some ⟨g, o, none⟩) f) (fun v w T d ⟨g, o, c, f, h1, h2, h3⟩ => ⟨g, o, c, f, h1, h2, h3.bel (Bel.pt w T d)⟩) (by kernel_rfl) (fun v hx => by simp at hx; subst hx; exact hv) (fun T d => (spec_DrawWearLost A0 bs c (Go.Proofs.Ytclnogfmmekooaa.tp (cutW (good Gd) W) T d) (hC.tp T d)).mono fun e w' ⟨g, o, d, f, h1, h2, h3, h4⟩ => ⟨_, h1, ⟨g, o, d, f, rfl, h2, h3.fl⟩, h4⟩) ?_
   clear co
   rintro A v w hA co _ hv_f ⟨g, off, d, f, rfl, hsm, hf_f⟩
   have hv_a := hv.mono hA
   clear hA hv
   rw [Frame.finish_at]
   walk_nrm
   have hln := Lib.hid (small_len4 hsm)
   replace hln := hln.out
   refine f_op rfl rfl (by k_ne) (fun w => ⟨run_eq_of (fun K hK => by go_simp; exact hK), listed_nil (by simp [go_sem, ev_min2, ev_max2, *])⟩) ?_
   walk_nrm
   refine f_ctl rfl (fun w => stepG_region_end) ?_
   refine f_ctl rfl (fun w => stepG_seq) ?_
   refine f_ctl rfl (fun w => stepG_region) ?_
   simp only [List.size_toArray, List.length_cons, List.length_nil, Nat.reduceAdd, Nat.zero_add, List.range, List.range.loop]
   refine f_op rfl rfl (by k_ne) (fun w => ⟨run_eq_of (fun K hK => by go_simp; exact hK), listed_nil (by simp [go_sem, ev_min2, ev_max2, *])⟩) ?_
   walk_nrm
   refine f_enter rfl rfl (by k_ne) rfl Try.func17 rfl rfl ?_
   walk_nrm
   refine Co.wearLost co hv_f hf_f ?_
   clear co
   intro w SB A hA co hb
   replace hv_f := hv_f.mono hA
   replace hf_f := hf_f.bel hb.cut
   replace hv_a := hv_a.mono hA
   clear hb hA
   rw [Frame.finish_at]
   walk_nrm
   refine f_op rfl rfl (by k_ne) (fun w => ⟨run_eq_of (fun K hK => by go_simp; exact hK), listed_nil (by simp [go_sem, ev_min2, ev_max2, *])⟩) ?_
   walk_nrm
   refine f_ctl rfl (fun w => stepG_region_end) ?_
   refine f_ctl rfl (fun w => stepG_seq) ?_
   refine f_ctl rfl (fun w => stepG_seq) ?_
   refine f_ctl rfl (fun w => stepG_region) ?_
   simp only [List.size_toArray, List.length_cons, List.length_nil, Nat.reduceAdd, Nat.zero_add, List.range, List.range.loop]
   refine f_op rfl rfl (by k_ne) (fun w => ⟨run_eq_of (fun K hK => by go_simp; exact hK), listed_nil (by simp [go_sem, ev_min2, ev_max2, *])⟩) ?_
   walk_nrm
   refine f_op rfl rfl (by k_ne) (fun w => ⟨run_eq_of (fun K hK => by go_simp; exact hK), listed_nil (by simp [go_sem, ev_min2, ev_max2, *])⟩) ?_
   walk_nrm
   refine f_enter rfl rfl (by k_ne) rfl Try.func16 rfl rfl ?_
   walk_nrm
   refine Co.call co (R := fun v _ => v = .int .i64 (if flashOk f then wTorn f else -1)) (fun _ _ _ _ h => h) (by kernel_rfl) (fun v hx => by simp at hx; subst hx; exact hv_f) (fun T d' => (spec_WearLost f (some ⟨g, off, none⟩) d (Go.Proofs.Ytclnogfmmekooaa.tp (cutW (good Gd) w) T d') hln (hf_f.bel (Bel.tp _ T d'))).mono fun e w' ⟨h1, h2⟩ => ⟨_, h1, rfl, h2⟩) ?_
   clear co
   intro A v w hA co hb _ hv1
   subst hv1
   replace hv_f := hv_f.mono hA
   replace hf_f := hf_f.bel hb.cut
   replace hv_a := hv_a.mono hA
   clear hb hA
   rw [Frame.finish_at]
   walk_nrm
   refine f_op (v := .bool false) rfl rfl (by k_ne) (fun w => ⟨run_eq_of (fun K hK => by go_simp; exact hK), listed_nil (by simp [go_sem, ev_min2, ev_max2, *])⟩) ?_
   walk_nrm
   refine f_op rfl rfl (by k_ne) (fun w => ⟨run_eq_of (fun K hK => by go_simp; exact hK), listed_nil (by simp [go_sem, ev_min2, ev_max2, *])⟩) ?_
   walk_nrm
   refine f_op rfl rfl (by k_ne) (fun w => ⟨run_eq_of (fun K hK => by go_simp; exact hK), listed_nil (by simp [go_sem, ev_min2, ev_max2, *])⟩) ?_
   walk_nrm
   refine f_enter rfl rfl (by k_ne) rfl Try.func19 rfl rfl ?_
   walk_nrm
   refine Co.call co (R := fun v _ => v = .bool (flashOk f)) (fun _ _ _ _ h => h) (by kernel_rfl) (fun v hx => by simp at hx; subst hx; exact hv_f) (fun T d' => (spec_FlashOk f (some ⟨g, off, none⟩) d (Go.Proofs.Ytclnogfmmekooaa.tp (cutW (good Gd) w) T d') hln (hf_f.bel (Bel.tp _ T d'))).mono fun e w' ⟨h1, h2⟩ => ⟨_, h1, rfl, h2⟩) ?_
   clear co
   intro A v w hA co hb _ hv1
   subst hv1
   replace hv_f := hv_f.mono hA
   replace hf_f := hf_f.bel hb.cut
   replace hv_a := hv_a.mono hA
   clear hb hA
   rw [Frame.finish_at]
   walk_nrm
   cases hok : flashOk f with
   | false =>
     refine f_op (v := .bool true) rfl rfl (by k_ne) (fun w => ⟨run_eq_of (fun K hK => by have h9 := hok; go_simp; exact hK), listed_nil (by have h9 := hok; simp [go_sem, ev_min2, ev_max2, *])⟩) ?_
     walk_nrm
     refine f_op (v := .bool true) rfl rfl (by k_ne) (fun w => ⟨run_eq_of (fun K hK => by go_simp; exact hK), listed_nil (by simp [go_sem, ev_min2, ev_max2, *])⟩) ?_
     walk_nrm
     refine f_ctl rfl (fun w => stepG_region_end) ?_
     refine f_ctl rfl (fun w => stepG_cond (t := true) (by simp [Act.eval])) ?_
     simp only [if_true, Bool.false_eq_true, if_false]
     refine f_ctl rfl (fun w => stepG_seq) ?_
     refine f_ctl rfl (fun w => stepG_region) ?_
     simp only [List.size_toArray, List.length_cons, List.length_nil, Nat.reduceAdd, Nat.zero_add, List.range, List.range.loop]
     refine f_op rfl rfl (by k_ne) (fun w => ⟨run_eq_of (fun K hK => by go_simp; exact hK), listed_nil (by simp [go_sem, ev_min2, ev_max2, *])⟩) ?_
     walk_nrm
     refine f_op rfl rfl (by k_ne) (fun w => ⟨run_eq_of (fun K hK => by go_simp; exact hK), listed_nil (by simp [go_sem, ev_min2, ev_max2, *])⟩) ?_
     walk_nrm
     refine f_enter rfl rfl (by k_ne) rfl Try.func16 rfl rfl ?_
     walk_nrm
     refine Co.call co (R := fun v _ => v = .int .i64 (if flashOk f then wTorn f else -1)) (fun _ _ _ _ h => h) (by kernel_rfl) (fun v hx => by simp at hx; subst hx; exact hv_f) (fun T d' => (spec_WearLost f (some ⟨g, off, none⟩) d (Go.Proofs.Ytclnogfmmekooaa.tp (cutW (good Gd) w) T d') hln (hf_f.bel (Bel.tp _ T d'))).mono fun e w' ⟨h1, h2⟩ => ⟨_, h1, rfl, h2⟩) ?_
     clear co
     intro A v w hA co hb _ hv1
     subst hv1
     replace hv_f := hv_f.mono hA
     replace hf_f := hf_f.bel hb.cut
     replace hv_a := hv_a.mono hA
     clear hb hA
     rw [Frame.finish_at]
     walk_nrm
     refine f_op (v := .bool true) rfl rfl (by k_ne) (fun w => ⟨run_eq_of (fun K hK => by have h9 := hok; go_simp; exact hK), listed_nil (by have h9 := hok; simp [go_sem, ev_min2, ev_max2, *])⟩) ?_
     walk_nrm
     refine f_op rfl rfl (by k_ne) (fun w => ⟨run_eq_of (fun K hK => by go_simp; exact hK), listed_nil (by simp [go_sem, ev_min2, ev_max2, *])⟩) ?_
     walk_nrm
     refine f_ctl rfl (fun w => stepG_region_end) ?_
     refine f_ctl rfl (fun w => stepG_ret') ?_
     refine Fine.fin (A := fun _ => False) (T := fun _ _ => 0) (d := 0) rfl rfl rfl Try.func10 (by kernel_rfl) (v := .bool true) (fun w _ => ?_) (fun w _ e he => ?_) (fun T d => ⟨rfl, co.bel.trans (Bel.tp _ T d)⟩)
     · simp [results, Try.f10, go_sem, Frame.at]
     · rw [show (results Try.f10 _).events Try.prog w #[] = #[] by simp [results, Try.f10, go_sem, Frame.at]] at he
       simp at he
   | true =>
     obtain ⟨m, opn, eF⟩ : ∃ m opn, findOpen f = (m, opn) := ⟨_, _, rfl⟩
     obtain ⟨s, eN⟩ : ∃ s, findNext f = s := ⟨_, rfl⟩
     obtain ⟨x, one, ex⟩ : ∃ x one, flashWrite f m ⟨1, s, 1, 0⟩ true = (x, one) := ⟨_, _, rfl⟩
     have hone : one = true → flashOk x = true ∧ wTorn x = wTorn f + 1 := by
      rcases flashWrite_cases hok m ⟨1, s, 1, 0⟩ true with e | ⟨i, b, h1, h2, h3, e⟩
      · rw [ex] at e; intro e'; rw [e'] at e; cases e
      · rw [ex] at e; cases e; exact fun _ => ⟨h3, written_torn hok h1 h2 _⟩
     have hsmall := wTorn_small hok (k := f.length)
     rw [List.take_of_length_le (Nat.le_refl _)] at hsmall
     have hadd : IntKind.i64.wrap (wTorn f + 1) = wTorn f + 1 := by rw [IntKind.wrap_i64]; omega
     clear hsmall
     refine f_op (v := .bool false) rfl rfl (by k_ne) (fun w => ⟨run_eq_of (fun K hK => by have h9 := hok; go_simp; exact hK), listed_nil (by have h9 := hok; simp [go_sem, ev_min2, ev_max2, *])⟩) ?_
     walk_nrm
     refine f_op (v := .bool false) rfl rfl (by k_ne) (fun w => ⟨run_eq_of (fun K hK => by go_simp; exact hK), listed_nil (by simp [go_sem, ev_min2, ev_max2, *])⟩) ?_
     walk_nrm
     refine f_ctl rfl (fun w => stepG_region_end) ?_
     refine f_ctl rfl (fun w => stepG_cond (t := false) (by simp [Act.eval])) ?_
     simp only [if_true, Bool.false_eq_true, if_false]
     refine f_ctl rfl (fun w => stepG_skip) ?_
     refine f_ctl rfl (fun w => stepG_seq) ?_
     refine f_ctl rfl (fun w => stepG_region) ?_
     simp only [List.size_toArray, List.length_cons, List.length_nil, Nat.reduceAdd, Nat.zero_add, List.range, List.range.loop]
     refine f_op rfl rfl (by k_ne) (fun w => ⟨run_eq_of (fun K hK => by go_simp; exact hK), listed_nil (by simp [go_sem, ev_min2, ev_max2, *])⟩) ?_
     walk_nrm
     refine f_enter rfl rfl (by k_ne) rfl Try.func27 rfl rfl ?_
     walk_nrm
     refine Co.call co (R := fun v _ => v = .tuple #[.int .i64 m, .bool opn]) (fun _ _ _ _ h => h) (by kernel_rfl) (fun v hx => by simp at hx; subst hx; exact hv_f) (fun T d' => (findOpen_at (hf_f.bel (Bel.tp _ T d')) eF).mono fun e w' ⟨h1, h2⟩ => ⟨_, h1, rfl, h2⟩) ?_
     clear co
     intro A v w hA co hb _ hv1
     subst hv1
     replace hv_f := hv_f.mono hA
     replace hf_f := hf_f.bel hb.cut
     replace hv_a := hv_a.mono hA
     clear hb hA
     rw [Frame.finish_at]
     walk_nrm
     refine f_op rfl rfl (by k_ne) (fun w => ⟨run_eq_of (fun K hK => by go_simp; exact hK), listed_nil (by simp [go_sem, ev_min2, ev_max2, *])⟩) ?_
     walk_nrm
     refine f_op rfl rfl (by k_ne) (fun w => ⟨run_eq_of (fun K hK => by go_simp; exact hK), listed_nil (by simp [go_sem, ev_min2, ev_max2, *])⟩) ?_
     walk_nrm
     refine f_op rfl rfl (by k_ne) (fun w => ⟨run_eq_of (fun K hK => by go_simp; exact hK), listed_nil (by simp [go_sem, ev_min2, ev_max2, *])⟩) ?_
     walk_nrm
     refine f_op rfl rfl (by k_ne) (fun w => ⟨run_eq_of (fun K hK => by go_simp; exact hK), listed_nil (by simp [go_sem, ev_min2, ev_max2, *])⟩) ?_
     walk_nrm
     refine f_op rfl rfl (by k_ne) (fun w => ⟨run_eq_of (fun K hK => by go_simp; exact hK), listed_nil (by simp [go_sem, ev_min2, ev_max2, *])⟩) ?_
     walk_nrm
     refine f_ctl rfl (fun w => stepG_region_end) ?_
     refine f_ctl rfl (fun w => stepG_seq) ?_
     refine f_ctl rfl (fun w => stepG_seq) ?_
     refine f_ctl rfl (fun w => stepG_region) ?_
     simp only [List.size_toArray, List.length_cons, List.length_nil, Nat.reduceAdd, Nat.zero_add, List.range, List.range.loop]
     refine f_op rfl rfl (by k_ne) (fun w => ⟨run_eq_of (fun K hK => by go_simp; exact hK), listed_nil (by simp [go_sem, ev_min2, ev_max2, *])⟩) ?_
     walk_nrm
     refine f_ctl rfl (fun w => stepG_region_end) ?_
     cases opn with
     | false =>
       refine f_ctl rfl (fun w => stepG_cond (t := false) (by simp [Act.eval])) ?_
       simp only [if_true, Bool.false_eq_true, if_false]
       refine f_ctl rfl (fun w => stepG_skip) ?_
       refine lostTail hok co hv_f hf_f (AllV.arr ?vin) rfl rfl
       case vin => repeat' (first | exact AllV.nil | (refine AllV.cons (by first | exact .int _ _ | exact .bool _ | exact VIn.undef | exact hv_f | exact hv_a | exact (VIn.pr (.int _ _) (.bool _))) ?_))
     | true =>
       refine f_ctl rfl (fun w => stepG_cond (t := true) (by simp [Act.eval])) ?_
       simp only [if_true, Bool.false_eq_true, if_false]
       refine f_ctl rfl (fun w => stepG_seq) ?_
       refine f_ctl rfl (fun w => stepG_region) ?_
       simp only [List.size_toArray, List.length_cons, List.length_nil, Nat.reduceAdd, Nat.zero_add, List.range, List.range.loop]
       refine f_op rfl rfl (by k_ne) (fun w => ⟨run_eq_of (fun K hK => by go_simp; exact hK), listed_nil (by simp [go_sem, ev_min2, ev_max2, *])⟩) ?_
       walk_nrm
       refine f_op rfl rfl (by k_ne) (fun w => ⟨run_eq_of (fun K hK => by go_simp; exact hK), listed_nil (by simp [go_sem, ev_min2, ev_max2, *])⟩) ?_
       walk_nrm
       refine f_op rfl rfl (by k_ne) (fun w => ⟨run_eq_of (fun K hK => by go_simp; exact hK), listed_nil (by simp [go_sem, ev_min2, ev_max2, *])⟩) ?_
       walk_nrm
       refine f_enter rfl rfl (by k_ne) rfl Try.func28 rfl rfl ?_
       walk_nrm
       refine Co.call co (R := fun v _ => v = .int .i64 s) (fun _ _ _ _ h => h) (by kernel_rfl) (fun v hx => by simp at hx; subst hx; exact hv_f) (fun T d' => (findNext_at (hf_f.bel (Bel.tp _ T d')) eN).mono fun e w' ⟨h1, h2⟩ => ⟨_, h1, rfl, h2⟩) ?_
       clear co
       intro A v w hA co hb _ hv1
       subst hv1
       replace hv_f := hv_f.mono hA
       replace hf_f := hf_f.bel hb.cut
       replace hv_a := hv_a.mono hA
       clear hb hA
       rw [Frame.finish_at]
       walk_nrm
       refine f_op rfl rfl (by k_ne) (fun w => ⟨run_eq_of (fun K hK => by go_simp; exact hK), listed_nil (by simp [go_sem, ev_min2, ev_max2, *])⟩) ?_
       walk_nrm
       refine f_enter rfl rfl (by k_ne) rfl Try.func26 rfl rfl ?_
       walk_nrm
       refine Co.call co (R := fun v w' => ∃ ad c, v = .tuple #[.slice ad x.length c, .bool one] ∧ Fl w' ad x) (fun v w T d ⟨ad, c, h1, h2⟩ => ⟨ad, c, h1, h2.bel (Bel.pt w T d)⟩) (by kernel_rfl) (fun v hx => by simp only [List.mem_toArray, List.mem_cons, List.not_mem_nil, or_false] at hx; rcases hx with rfl | rfl | rfl | rfl; exact hv_f; exact .int _ _; exact .agg (fun v hv => by simp at hv; rcases hv with rfl | rfl | rfl | rfl <;> exact .int _ _); exact .bool _) (fun T d' => (show Calls Try.prog _ _ _ (FlPost (x, one) _) from ex ▸ impl_FlashWrite f m ⟨1, s, 1, 0⟩ true (some ⟨g, off, none⟩) f.length d (Go.Proofs.Ytclnogfmmekooaa.tp (cutW (good Gd) w) T d') rfl (hf_f.bel (Bel.tp _ T d'))).mono fun e w' ⟨ad, c, h1, h2, h3, h4⟩ => ⟨_, h1, ⟨ad, c, rfl, h3.fl⟩, h4⟩) ?_
       clear co
       rintro A v w hA co hb hv_x ⟨ad_x, c_x, rfl, hf_x⟩
       replace hv_x := hv_x.pair
       replace hv_f := hv_f.mono hA
       replace hf_f := hf_f.bel hb.cut
       replace hv_a := hv_a.mono hA
       clear hb hA
       rw [Frame.finish_at]
       walk_nrm
       refine f_op rfl rfl (by k_ne) (fun w => ⟨run_eq_of (fun K hK => by go_simp; exact hK), listed_nil (by simp [go_sem, ev_min2, ev_max2, *])⟩) ?_
       walk_nrm
       refine f_op rfl rfl (by k_ne) (fun w => ⟨run_eq_of (fun K hK => by go_simp; exact hK), listed_nil (by simp [go_sem, ev_min2, ev_max2, *])⟩) ?_
       walk_nrm
       refine f_op rfl rfl (by k_ne) (fun w => ⟨run_eq_of (fun K hK => by go_simp; exact hK), listed_nil (by simp [go_sem, ev_min2, ev_max2, *])⟩) ?_
       walk_nrm
       refine f_op rfl rfl (by k_ne) (fun w => ⟨run_eq_of (fun K hK => by go_simp; exact hK), listed_nil (by simp [go_sem, ev_min2, ev_max2, *])⟩) ?_
       walk_nrm
       refine f_op rfl rfl (by k_ne) (fun w => ⟨run_eq_of (fun K hK => by go_simp; exact hK), listed_nil (by simp [go_sem, ev_min2, ev_max2, *])⟩) ?_
       walk_nrm
       refine f_ctl rfl (fun w => stepG_region_end) ?_
       refine f_ctl rfl (fun w => stepG_seq) ?_
       refine f_ctl rfl (fun w => stepG_region) ?_
       simp only [List.size_toArray, List.length_cons, List.length_nil, Nat.reduceAdd, Nat.zero_add, List.range, List.range.loop]
       refine f_op rfl rfl (by k_ne) (fun w => ⟨run_eq_of (fun K hK => by go_simp; exact hK), listed_nil (by simp [go_sem, ev_min2, ev_max2, *])⟩) ?_
       walk_nrm
       cases one with
       | false =>
         refine f_op (v := .bool false) rfl rfl (by k_ne) (fun w => ⟨run_eq_of (fun K hK => by go_simp; exact hK), listed_nil (by simp [go_sem, ev_min2, ev_max2, *])⟩) ?_
         walk_nrm
         refine f_skip rfl rfl ?_
         walk_nrm
         refine f_skip rfl rfl ?_
         walk_nrm
         refine f_skip rfl rfl ?_
         walk_nrm
         refine f_skip rfl rfl ?_
         walk_nrm
         refine f_skip rfl rfl ?_
         walk_nrm
         refine f_op (v := .bool false) rfl rfl (by k_ne) (fun w => ⟨run_eq_of (fun K hK => by go_simp; exact hK), listed_nil (by simp [go_sem, ev_min2, ev_max2, *])⟩) ?_
         walk_nrm
         refine f_ctl rfl (fun w => stepG_region_end) ?_
         refine f_ctl rfl (fun w => stepG_cond (t := false) (by simp [Act.eval])) ?_
         simp only [if_true, Bool.false_eq_true, if_false]
         refine f_ctl rfl (fun w => stepG_skip) ?_
         refine lostTail hok co hv_f hf_f (AllV.arr ?vin) rfl rfl
         case vin => repeat' (first | exact AllV.nil | (refine AllV.cons (by first | exact .int _ _ | exact .bool _ | exact VIn.undef | exact hv_f | exact hv_a | exact hv_x | exact (VIn.pr (.int _ _) (.bool _)) | exact (VIn.pr hv_x (.bool _)) | exact (VIn.agg (fun v hv => by simp at hv; rcases hv with rfl | rfl | rfl | rfl <;> exact .int _ _))) ?_))
       | true =>
         obtain ⟨hx1, hx2⟩ := hone rfl
         refine f_op (v := .bool true) rfl rfl (by k_ne) (fun w => ⟨run_eq_of (fun K hK => by go_simp; exact hK), listed_nil (by simp [go_sem, ev_min2, ev_max2, *])⟩) ?_
         walk_nrm
         refine f_op rfl rfl (by k_ne) (fun w => ⟨run_eq_of (fun K hK => by go_simp; exact hK), listed_nil (by simp [go_sem, ev_min2, ev_max2, *])⟩) ?_
         walk_nrm
         refine f_enter rfl rfl (by k_ne) rfl Try.func17 rfl rfl ?_
         walk_nrm
         refine Co.wearLost co hv_x hf_x ?_
         clear co
         intro w SB A hA co hb
         replace hv_f := hv_f.mono hA
         replace hf_f := hf_f.bel hb.cut
         replace hv_x := hv_x.mono hA
         replace hf_x := hf_x.bel hb.cut
         replace hv_a := hv_a.mono hA
         clear hb hA
         rw [Frame.finish_at]
         walk_nrm
         refine f_op rfl rfl (by k_ne) (fun w => ⟨run_eq_of (fun K hK => by go_simp; exact hK), listed_nil (by simp [go_sem, ev_min2, ev_max2, *])⟩) ?_
         walk_nrm
         refine f_op (v := .int .i64 (wTorn f + 1)) rfl rfl (by k_ne) (fun w => ⟨run_eq_of (fun K hK => by have h9 := hadd; go_simp; exact hK), listed_nil (by have h9 := hadd; simp [go_sem, ev_min2, ev_max2, *])⟩) ?_
         walk_nrm
         refine f_op (v := .bool false) rfl rfl (by k_ne) (fun w => ⟨run_eq_of (fun K hK => by have h9 := hx1; have h8 := hx2; go_simp; exact hK), listed_nil (by have h9 := hx1; have h8 := hx2; simp [go_sem, ev_min2, ev_max2, *])⟩) ?_
         walk_nrm
         refine f_op (v := .bool false) rfl rfl (by k_ne) (fun w => ⟨run_eq_of (fun K hK => by go_simp; exact hK), listed_nil (by simp [go_sem, ev_min2, ev_max2, *])⟩) ?_
         walk_nrm
         refine f_ctl rfl (fun w => stepG_region_end) ?_
         refine f_ctl rfl (fun w => stepG_cond (t := false) (by simp [Act.eval])) ?_
         simp only [if_true, Bool.false_eq_true, if_false]
         refine f_ctl rfl (fun w => stepG_skip) ?_
         refine lostTail hok co hv_f hf_f (AllV.arr ?vin) rfl rfl
         case vin => repeat' (first | exact AllV.nil | (refine AllV.cons (by first | exact .int _ _ | exact .bool _ | exact VIn.undef | exact hv_f | exact hv_a | exact hv_x | exact (VIn.pr (.int _ _) (.bool _)) | exact (VIn.pr hv_x (.bool _)) | exact (VIn.agg (fun v hv => by simp at hv; rcases hv with rfl | rfl | rfl | rfl <;> exact .int _ _))) ?_))
end Go.Proofs.Ytclnogfmmekooaa
