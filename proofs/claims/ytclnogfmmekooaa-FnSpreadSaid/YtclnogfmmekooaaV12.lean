/- The law FnSpread beside leavers. (Printed by genv10.py.) -/
import Derived.Test.YtclnogfmmekooaaV10
namespace Go.Proofs.Ytclnogfmmekooaa
set_option linter.unusedVariables false
set_option linter.unusedSimpArgs false
open Go.Conc Go.ConcN Go.ConcR.Gen Go.RowKit
set_option maxRecDepth 100000
set_option maxHeartbeats 8000000
theorem law_FnSpread {W : World} (A0 : Option Addr) (bs : List Nat) (c : Nat) (hc : Code W A0 bs c) (hl : Lain W A0) :
 Fine Try.prog (fun v w' => v = .bool true ∧ Bel W w') (fun _ => False) (G (Frame.enter Try.prog 6 #[.slice A0 bs.length c] .normal) []) W := by
 obtain ⟨Gd, A, co, hv, hC⟩ := start_co hc hl
 rw [enter_at _ Try.func6 rfl]
 walk_nrmf Try.f6
 refine f_ctl rfl (fun w => stepG_seq) ?_
 refine f_ctl rfl (fun w => stepG_region) ?_
 simp only [List.size_toArray, List.length_cons, List.length_nil, Nat.reduceAdd, Nat.zero_add, List.range, List.range.loop]
 refine f_op rfl rfl (by k_ne) (fun w => ⟨run_eq_of (fun K hK => by go_simp; exact hK), listed_nil (by simp [go_sem, ev_min2, ev_max2, *])⟩) ?_
 walk_nrm
 refine f_ctl rfl (fun w => stepG_region_end) ?_
 refine f_ctl rfl (fun w => stepG_seq) ?_
 refine f_ctl rfl (fun w => stepG_seq) ?_
 refine f_ctl rfl (fun w => stepG_region) ?_
 simp only [List.size_toArray, List.length_cons, List.length_nil, Nat.reduceAdd, Nat.zero_add, List.range, List.range.loop]
 refine f_op rfl rfl (by k_ne) (fun w => ⟨run_eq_of (fun K hK => by go_simp; exact hK), listed_nil (by simp [go_sem, ev_min2, ev_max2, *])⟩) ?_
 walk_nrm
 refine f_op rfl rfl (by k_ne) (fun w => ⟨run_eq_of (fun K hK => by go_simp; exact hK), listed_nil (by simp [go_sem, ev_min2, ev_max2, *])⟩) ?_
 walk_nrm
 by_cases hlen : (1048576 : Int) < bs.length
 · clear co hv hC
   refine f_op (v := .bool true) rfl rfl (by k_ne) (fun w => ⟨run_eq_of (fun K hK => by have h9 := hlen; go_simp; exact hK), listed_nil (by have h9 := hlen; simp [go_sem, ev_min2, ev_max2, *])⟩) ?_
   walk_nrm
   refine f_ctl rfl (fun w => stepG_region_end) ?_
   refine f_ctl rfl (fun w => stepG_cond (t := true) (by simp [Act.eval])) ?_
   simp only [if_true, Bool.false_eq_true, if_false]
   refine f_ctl rfl (fun w => stepG_seq) ?_
   refine f_ctl rfl (fun w => stepG_region) ?_
   simp only [List.size_toArray, List.length_cons, List.length_nil, Nat.reduceAdd, Nat.zero_add, List.range, List.range.loop]
   refine f_op rfl rfl (by k_ne) (fun w => ⟨run_eq_of (fun K hK => by go_simp; exact hK), listed_nil (by simp [go_sem, ev_min2, ev_max2, *])⟩) ?_
   walk_nrm
   refine f_ctl rfl (fun w => stepG_region_end) ?_
   refine f_ctl rfl (fun w => stepG_ret') ?_
   refine Fine.fin (A := fun _ => False) (T := fun _ _ => 0) (d := 0) rfl rfl rfl Try.func6 (by kernel_rfl) (v := .bool true) (fun w _ => ?_) (fun w _ e he => ?_) (fun T d => ⟨rfl, Bel.tp _ T d⟩)
   · simp [results, Try.f6, go_sem, Frame.at]
   · rw [show (results Try.f6 _).events Try.prog w #[] = #[] by simp [results, Try.f6, go_sem, Frame.at]] at he
     simp at he
 · have hlen2 : ¬ (1048576 : Int) < bs.length := hlen
   refine f_op (v := .bool false) rfl rfl (by k_ne) (fun w => ⟨run_eq_of (fun K hK => by have h9 := hlen; go_simp; exact hK), listed_nil (by have h9 := hlen; simp [go_sem, ev_min2, ev_max2, *])⟩) ?_
   walk_nrm
   refine f_ctl rfl (fun w => stepG_region_end) ?_
   refine f_ctl rfl (fun w => stepG_cond (t := false) (by simp [Act.eval])) ?_
   simp only [if_true, Bool.false_eq_true, if_false]
   refine f_ctl rfl (fun w => stepG_skip) ?_
   refine f_ctl rfl (fun w => stepG_seq) ?_
   refine f_ctl rfl (fun w => stepG_region) ?_
   simp only [List.size_toArray, List.length_cons, List.length_nil, Nat.reduceAdd, Nat.zero_add, List.range, List.range.loop]
   refine f_op rfl rfl (by k_ne) (fun w => ⟨run_eq_of (fun K hK => by go_simp; exact hK), listed_nil (by simp [go_sem, ev_min2, ev_max2, *])⟩) ?_
   walk_nrm
   refine f_enter rfl rfl (by k_ne) rfl Try.func18 rfl rfl ?_
   walk_nrm
   refine Co.call co (R := fun v w' => ∃ (g o d : Nat) (f : List Bk), v = .slice (some ⟨g, o, none⟩) f.length d ∧ flSmall f ∧ Fl w' (some ⟨g, o, none⟩) f) (fun v w T d ⟨g, o, c, f, h1, h2, h3⟩ => ⟨g, o, c, f, h1, h2, h3.bel (Bel.pt w T d)⟩) (by kernel_rfl) (fun v hx => by simp at hx; subst hx; exact hv) (fun T d => (spec_DrawWearSpread A0 bs c (Go.Proofs.Ytclnogfmmekooaa.tp (cutW (good Gd) W) T d) (hC.tp T d)).mono fun e w' ⟨g, o, d, f, h1, h2, h3, h4⟩ => ⟨_, h1, ⟨g, o, d, f, rfl, h2, h3.fl⟩, h4⟩) ?_
   clear co
   rintro A v w hA co _ hv_f ⟨g, off, d, f, rfl, hsm, hf_f⟩
   have hv_a := hv.mono hA
   clear hA hv
   rw [Frame.finish_at]
   walk_nrm
   have hln := Lib.hid (small_len4 hsm)
   replace hln := hln.out
   refine f_op rfl rfl (by k_ne) (fun w => ⟨run_eq_of (fun K hK => by go_simp; exact hK), listed_nil (by simp [go_sem, ev_min2, ev_max2, *])⟩) ?_
   walk_nrm
   refine f_ctl rfl (fun w => stepG_region_end) ?_
   refine f_ctl rfl (fun w => stepG_seq) ?_
   refine f_ctl rfl (fun w => stepG_region) ?_
   simp only [List.size_toArray, List.length_cons, List.length_nil, Nat.reduceAdd, Nat.zero_add, List.range, List.range.loop]
   refine f_op rfl rfl (by k_ne) (fun w => ⟨run_eq_of (fun K hK => by go_simp; exact hK), listed_nil (by simp [go_sem, ev_min2, ev_max2, *])⟩) ?_
   walk_nrm
   refine f_enter rfl rfl (by k_ne) rfl Try.func14 rfl rfl ?_
   walk_nrm
   refine Co.wearSpread co hv_f hf_f ?_
   clear co
   intro w SB A hA co hb
   replace hv_f := hv_f.mono hA
   replace hf_f := hf_f.bel hb.cut
   replace hv_a := hv_a.mono hA
   clear hb hA
   rw [Frame.finish_at]
   walk_nrm
   refine f_op rfl rfl (by k_ne) (fun w => ⟨run_eq_of (fun K hK => by go_simp; exact hK), listed_nil (by simp [go_sem, ev_min2, ev_max2, *])⟩) ?_
   walk_nrm
   refine f_ctl rfl (fun w => stepG_region_end) ?_
   refine f_ctl rfl (fun w => stepG_seq) ?_
   refine f_ctl rfl (fun w => stepG_seq) ?_
   refine f_ctl rfl (fun w => stepG_region) ?_
   simp only [List.size_toArray, List.length_cons, List.length_nil, Nat.reduceAdd, Nat.zero_add, List.range, List.range.loop]
   refine f_op rfl rfl (by k_ne) (fun w => ⟨run_eq_of (fun K hK => by go_simp; exact hK), listed_nil (by simp [go_sem, ev_min2, ev_max2, *])⟩) ?_
   walk_nrm
   refine f_op rfl rfl (by k_ne) (fun w => ⟨run_eq_of (fun K hK => by go_simp; exact hK), listed_nil (by simp [go_sem, ev_min2, ev_max2, *])⟩) ?_
   walk_nrm
   refine f_enter rfl rfl (by k_ne) rfl Try.func12 rfl rfl ?_
   walk_nrm
   refine Co.call co (R := fun v _ => v = .int .i64 (if flashOk f then wHi f - wLo f else -1)) (fun _ _ _ _ h => h) (by kernel_rfl) (fun v hx => by simp at hx; subst hx; exact hv_f) (fun T d' => (spec_WearSpread f (some ⟨g, off, none⟩) d (Go.Proofs.Ytclnogfmmekooaa.tp (cutW (good Gd) w) T d') hln (hf_f.bel (Bel.tp _ T d'))).mono fun e w' ⟨h1, h2⟩ => ⟨_, h1, rfl, h2⟩) ?_
   clear co
   intro A v w hA co hb _ hv1
   subst hv1
   replace hv_f := hv_f.mono hA
   replace hf_f := hf_f.bel hb.cut
   replace hv_a := hv_a.mono hA
   clear hb hA
   rw [Frame.finish_at]
   walk_nrm
   refine f_op (v := .bool false) rfl rfl (by k_ne) (fun w => ⟨run_eq_of (fun K hK => by go_simp; exact hK), listed_nil (by simp [go_sem, ev_min2, ev_max2, *])⟩) ?_
   walk_nrm
   refine f_op rfl rfl (by k_ne) (fun w => ⟨run_eq_of (fun K hK => by go_simp; exact hK), listed_nil (by simp [go_sem, ev_min2, ev_max2, *])⟩) ?_
   walk_nrm
   refine f_op rfl rfl (by k_ne) (fun w => ⟨run_eq_of (fun K hK => by go_simp; exact hK), listed_nil (by simp [go_sem, ev_min2, ev_max2, *])⟩) ?_
   walk_nrm
   refine f_enter rfl rfl (by k_ne) rfl Try.func19 rfl rfl ?_
   walk_nrm
   refine Co.call co (R := fun v _ => v = .bool (flashOk f)) (fun _ _ _ _ h => h) (by kernel_rfl) (fun v hx => by simp at hx; subst hx; exact hv_f) (fun T d' => (spec_FlashOk f (some ⟨g, off, none⟩) d (Go.Proofs.Ytclnogfmmekooaa.tp (cutW (good Gd) w) T d') hln (hf_f.bel (Bel.tp _ T d'))).mono fun e w' ⟨h1, h2⟩ => ⟨_, h1, rfl, h2⟩) ?_
   clear co
   intro A v w hA co hb _ hv1
   subst hv1
   replace hv_f := hv_f.mono hA
   replace hf_f := hf_f.bel hb.cut
   replace hv_a := hv_a.mono hA
   clear hb hA
   rw [Frame.finish_at]
   walk_nrm
   cases hok : flashOk f with
   | false =>
     refine f_op (v := .bool true) rfl rfl (by k_ne) (fun w => ⟨run_eq_of (fun K hK => by have h9 := hok; go_simp; exact hK), listed_nil (by have h9 := hok; simp [go_sem, ev_min2, ev_max2, *])⟩) ?_
     walk_nrm
     refine f_op (v := .bool true) rfl rfl (by k_ne) (fun w => ⟨run_eq_of (fun K hK => by go_simp; exact hK), listed_nil (by simp [go_sem, ev_min2, ev_max2, *])⟩) ?_
     walk_nrm
     refine f_ctl rfl (fun w => stepG_region_end) ?_
     refine f_ctl rfl (fun w => stepG_cond (t := true) (by simp [Act.eval])) ?_
     simp only [if_true, Bool.false_eq_true, if_false]
     refine f_ctl rfl (fun w => stepG_seq) ?_
     refine f_ctl rfl (fun w => stepG_region) ?_
     simp only [List.size_toArray, List.length_cons, List.length_nil, Nat.reduceAdd, Nat.zero_add, List.range, List.range.loop]
     refine f_op rfl rfl (by k_ne) (fun w => ⟨run_eq_of (fun K hK => by go_simp; exact hK), listed_nil (by simp [go_sem, ev_min2, ev_max2, *])⟩) ?_
     walk_nrm
     refine f_op rfl rfl (by k_ne) (fun w => ⟨run_eq_of (fun K hK => by go_simp; exact hK), listed_nil (by simp [go_sem, ev_min2, ev_max2, *])⟩) ?_
     walk_nrm
     refine f_enter rfl rfl (by k_ne) rfl Try.func12 rfl rfl ?_
     walk_nrm
     refine Co.call co (R := fun v _ => v = .int .i64 (if flashOk f then wHi f - wLo f else -1)) (fun _ _ _ _ h => h) (by kernel_rfl) (fun v hx => by simp at hx; subst hx; exact hv_f) (fun T d' => (spec_WearSpread f (some ⟨g, off, none⟩) d (Go.Proofs.Ytclnogfmmekooaa.tp (cutW (good Gd) w) T d') hln (hf_f.bel (Bel.tp _ T d'))).mono fun e w' ⟨h1, h2⟩ => ⟨_, h1, rfl, h2⟩) ?_
     clear co
     intro A v w hA co hb _ hv1
     subst hv1
     replace hv_f := hv_f.mono hA
     replace hf_f := hf_f.bel hb.cut
     replace hv_a := hv_a.mono hA
     clear hb hA
     rw [Frame.finish_at]
     walk_nrm
     refine f_op (v := .bool true) rfl rfl (by k_ne) (fun w => ⟨run_eq_of (fun K hK => by have h9 := hok; go_simp; exact hK), listed_nil (by have h9 := hok; simp [go_sem, ev_min2, ev_max2, *])⟩) ?_
     walk_nrm
     refine f_op rfl rfl (by k_ne) (fun w => ⟨run_eq_of (fun K hK => by go_simp; exact hK), listed_nil (by simp [go_sem, ev_min2, ev_max2, *])⟩) ?_
     walk_nrm
     refine f_ctl rfl (fun w => stepG_region_end) ?_
     refine f_ctl rfl (fun w => stepG_ret') ?_
     refine Fine.fin (A := fun _ => False) (T := fun _ _ => 0) (d := 0) rfl rfl rfl Try.func6 (by kernel_rfl) (v := .bool true) (fun w _ => ?_) (fun w _ e he => ?_) (fun T d => ⟨rfl, co.bel.trans (Bel.tp _ T d)⟩)
     · simp [results, Try.f6, go_sem, Frame.at]
     · rw [show (results Try.f6 _).events Try.prog w #[] = #[] by simp [results, Try.f6, go_sem, Frame.at]] at he
       simp at he
   | true =>
     refine f_op (v := .bool false) rfl rfl (by k_ne) (fun w => ⟨run_eq_of (fun K hK => by have h9 := hok; go_simp; exact hK), listed_nil (by have h9 := hok; simp [go_sem, ev_min2, ev_max2, *])⟩) ?_
     walk_nrm
     refine f_op (v := .bool false) rfl rfl (by k_ne) (fun w => ⟨run_eq_of (fun K hK => by go_simp; exact hK), listed_nil (by simp [go_sem, ev_min2, ev_max2, *])⟩) ?_
     walk_nrm
     refine f_ctl rfl (fun w => stepG_region_end) ?_
     refine f_ctl rfl (fun w => stepG_cond (t := false) (by simp [Act.eval])) ?_
     simp only [if_true, Bool.false_eq_true, if_false]
     refine f_ctl rfl (fun w => stepG_skip) ?_
     refine f_ctl rfl (fun w => stepG_seq) ?_
     refine f_ctl rfl (fun w => stepG_region) ?_
     simp only [List.size_toArray, List.length_cons, List.length_nil, Nat.reduceAdd, Nat.zero_add, List.range, List.range.loop]
     refine f_op rfl rfl (by k_ne) (fun w => ⟨run_eq_of (fun K hK => by go_simp; exact hK), listed_nil (by simp [go_sem, ev_min2, ev_max2, *])⟩) ?_
     walk_nrm
     refine f_ctl rfl (fun w => stepG_region_end) ?_
     refine f_ctl rfl (fun w => stepG_seq) ?_
     refine f_ctl rfl (fun w => stepG_region) ?_
     simp only [List.size_toArray, List.length_cons, List.length_nil, Nat.reduceAdd, Nat.zero_add, List.range, List.range.loop]
     refine f_op rfl rfl (by k_ne) (fun w => ⟨run_eq_of (fun K hK => by go_simp; exact hK), listed_nil (by simp [go_sem, ev_min2, ev_max2, *])⟩) ?_
     walk_nrm
     refine f_ctl rfl (fun w => stepG_region_end) ?_
     refine f_ctl rfl (fun w => stepG_seq) ?_
     refine Co.wp (spQ (if true = true then wHi f - wLo f else -1) g off d f) co rfl (by kernel_rfl) (fun _ => rfl) (AllV.arr ?vin) rfl (fun a w T d h => h) (fun T d' => ?lone) ?_
     case vin => repeat' (first | exact AllV.nil | (refine AllV.cons (by first | exact .int _ _ | exact .bool _ | exact VIn.undef | exact hv_f | exact hv_a) ?_))
     case lone =>
      have hf := hf_f.bel (Bel.tp _ T d')
      have hp := fun Tx => spLoop (d := d) (n := if true = true then wHi f - wLo f else -1) (Bel.tp (cutW (good Gd) w) T d') hok (if_pos rfl) hf Tx
      simp only [spC, Try.f6] at hp
      exact hp _ rfl rfl rfl rfl rfl
     clear co
     rintro A _ w hA co hb _ ⟨T, rfl, hT, t3, t4, t5, t6⟩
     replace hv_f := hv_f.mono hA
     replace hf_f := hf_f.bel hb.cut
     replace hv_a := hv_a.mono hA
     clear hb hA
     obtain ⟨v0, v1, v2, v3, v4, v5, v6, v7, v8, v9, v10, v11, v12, v13, v14, v15, v16, v17, v18, v19, v20, v21, v22, v23, v24, v25, v26, v27, v28, v29, v30, v31, v32, v33, v34, v35, v36, v37, v38, v39, v40, v41, v42, v43, v44, v45, v46, v47, v48, v49, v50, v51, v52, v53, v54, v55, v56, v57, v58, v59, v60, v61, v62, v63, v64, v65, v66, v67, v68, v69, v70, v71, v72, v73, v74, v75, v76, v77, v78, v79, v80, v81, v82, v83, v84, v85, v86, rfl⟩ := arrs87 T hT
     simp only [List.getElem?_toArray, List.getElem?_cons_succ, List.getElem?_cons_zero, Option.some.injEq] at t3 t4 t5 t6
     subst t3 t4 t5 t6
     refine f_ctl rfl (fun w => stepG_seq) ?_
     refine f_ctl rfl (fun w => stepG_region) ?_
     simp only [List.size_toArray, List.length_cons, List.length_nil, Nat.reduceAdd, Nat.zero_add, List.range, List.range.loop]
     refine f_op rfl rfl (by k_ne) (fun w => ⟨run_eq_of (fun K hK => by go_simp; exact hK), listed_nil (by simp [go_sem, ev_min2, ev_max2, *])⟩) ?_
     walk_nrm
     refine f_op (v := .bool true) rfl rfl (by k_ne) (fun w => ⟨run_eq_of (fun K hK => by go_simp; exact hK), listed_nil (by simp [go_sem, ev_min2, ev_max2, *])⟩) ?_
     walk_nrm
     refine f_op rfl rfl (by k_ne) (fun w => ⟨run_eq_of (fun K hK => by go_simp; exact hK), listed_nil (by simp [go_sem, ev_min2, ev_max2, *])⟩) ?_
     walk_nrm
     refine f_op rfl rfl (by k_ne) (fun w => ⟨run_eq_of (fun K hK => by go_simp; exact hK), listed_nil (by simp [go_sem, ev_min2, ev_max2, *])⟩) ?_
     walk_nrm
     refine f_enter rfl rfl (by k_ne) rfl Try.func20 rfl rfl ?_
     walk_nrm
     refine Co.wearAll co hv_f hf_f ?_
     clear co
     intro w SB A hA co hb
     replace hv_f := hv_f.mono hA
     replace hf_f := hf_f.bel hb.cut
     replace hv_a := hv_a.mono hA
     clear hb hA
     rw [Frame.finish_at]
     walk_nrm
     refine f_op rfl rfl (by k_ne) (fun w => ⟨run_eq_of (fun K hK => by go_simp; exact hK), listed_nil (by simp [go_sem, ev_min2, ev_max2, *])⟩) ?_
     walk_nrm
     refine f_op (v := .bool true) rfl rfl (by k_ne) (fun w => ⟨run_eq_of (fun K hK => by have h9 := hok; go_simp; exact hK), listed_nil (by have h9 := hok; simp [go_sem, ev_min2, ev_max2, *])⟩) ?_
     walk_nrm
     refine f_op (v := .bool true) rfl rfl (by k_ne) (fun w => ⟨run_eq_of (fun K hK => by go_simp; exact hK), listed_nil (by simp [go_sem, ev_min2, ev_max2, *])⟩) ?_
     walk_nrm
     refine f_op rfl rfl (by k_ne) (fun w => ⟨run_eq_of (fun K hK => by go_simp; exact hK), listed_nil (by simp [go_sem, ev_min2, ev_max2, *])⟩) ?_
     walk_nrm
     refine f_enter rfl rfl (by k_ne) rfl Try.func21 rfl rfl ?_
     walk_nrm
     refine Co.call co (R := fun v w' => ∃ q, v = .slice (some ⟨q, 0, none⟩) flashNew.length 4 ∧ Fl w' (some ⟨q, 0, none⟩) flashNew) (fun v w T d ⟨q, h1, h2⟩ => ⟨q, h1, h2.bel (Bel.pt w T d)⟩) (by kernel_rfl) (fun v hx => by simp at hx) (fun T d' => (impl_FlashNew (Go.Proofs.Ytclnogfmmekooaa.tp (cutW (good Gd) w) T d')).mono fun e w' ⟨q, h1, h2, h3⟩ => ⟨_, h1, ⟨q, rfl, h2.fl⟩, h3⟩) ?_
     clear co
     rintro A v w hA co hb hv_z ⟨q, rfl, hf_z⟩
     replace hv_f := hv_f.mono hA
     replace hf_f := hf_f.bel hb.cut
     replace hv_a := hv_a.mono hA
     clear hb hA
     rw [Frame.finish_at]
     walk_nrm
     refine f_enter rfl rfl (by k_ne) rfl Try.func14 rfl rfl ?_
     walk_nrm
     refine Co.wearSpread co hv_z hf_z ?_
     clear co
     intro w SB A hA co hb

     clear hb hA
     rw [Frame.finish_at]
     walk_nrm
     refine f_op (v := .bool true) rfl rfl (by k_ne) (fun w => ⟨run_eq_of (fun K hK => by have h9 := new_flash.1; have h8 := new_flash.2; go_simp; exact hK), listed_nil (by have h9 := new_flash.1; have h8 := new_flash.2; simp [go_sem, ev_min2, ev_max2, *])⟩) ?_
     walk_nrm
     refine f_op (v := .bool true) rfl rfl (by k_ne) (fun w => ⟨run_eq_of (fun K hK => by go_simp; exact hK), listed_nil (by simp [go_sem, ev_min2, ev_max2, *])⟩) ?_
     walk_nrm
     refine f_op rfl rfl (by k_ne) (fun w => ⟨run_eq_of (fun K hK => by go_simp; exact hK), listed_nil (by simp [go_sem, ev_min2, ev_max2, *])⟩) ?_
     walk_nrm
     refine f_ctl rfl (fun w => stepG_region_end) ?_
     refine f_ctl rfl (fun w => stepG_ret') ?_
     refine Fine.fin (A := fun _ => False) (T := fun _ _ => 0) (d := 0) rfl rfl rfl Try.func6 (by kernel_rfl) (v := .bool true) (fun w _ => ?_) (fun w _ e he => ?_) (fun T d => ⟨rfl, co.bel.trans (Bel.tp _ T d)⟩)
     · simp [results, Try.f6, go_sem, Frame.at]
     · rw [show (results Try.f6 _).events Try.prog w #[] = #[] by simp [results, Try.f6, go_sem, Frame.at]] at he
       simp at he
end Go.Proofs.Ytclnogfmmekooaa
