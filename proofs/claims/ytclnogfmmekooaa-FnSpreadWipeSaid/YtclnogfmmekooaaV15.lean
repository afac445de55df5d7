/- The law FnSpreadWipe beside leavers. (Printed by genv14.py.) -/
import Derived.Test.YtclnogfmmekooaaV14
namespace Go.Proofs.Ytclnogfmmekooaa
set_option linter.unusedVariables false
set_option linter.unusedSimpArgs false
open Go.Conc Go.ConcN Go.ConcR.Gen Go.RowKit
set_option maxRecDepth 100000
set_option maxHeartbeats 8000000
theorem law_FnSpreadWipe {W : World} (A0 : Option Addr) (bs : List Nat) (c : Nat) (hc : Code W A0 bs c) (hl : Lain W A0) :
 Fine Try.prog (fun v w' => v = .bool true ∧ Bel W w') (fun _ => False) (G (Frame.enter Try.prog 7 #[.slice A0 bs.length c] .normal) []) W := by
 obtain ⟨Gd, A, co, hv, hC⟩ := start_co hc hl
 rw [enter_at _ Try.func7 rfl]
 walk_nrmf Try.f7
 refine f_ctl rfl (fun w => stepG_seq) ?_
 refine f_ctl rfl (fun w => stepG_region) ?_
 simp only [List.size_toArray, List.length_cons, List.length_nil, Nat.reduceAdd, Nat.zero_add, List.range, List.range.loop]
 refine f_op rfl rfl (by k_ne) (fun w => ⟨run_eq_of (fun K hK => by go_simp; exact hK), listed_nil (by simp [go_sem, ev_min2, ev_max2, *])⟩) ?_
 walk_nrm
 refine f_ctl rfl (fun w => stepG_region_end) ?_
 refine f_ctl rfl (fun w => stepG_seq) ?_
 refine f_ctl rfl (fun w => stepG_seq) ?_
 refine f_ctl rfl (fun w => stepG_region) ?_
 simp only [List.size_toArray, List.length_cons, List.length_nil, Nat.reduceAdd, Nat.zero_add, List.range, List.range.loop]
 refine f_op rfl rfl (by k_ne) (fun w => ⟨run_eq_of (fun K hK => by go_simp; exact hK), listed_nil (by simp [go_sem, ev_min2, ev_max2, *])⟩) ?_
 walk_nrm
 refine f_op rfl rfl (by k_ne) (fun w => ⟨run_eq_of (fun K hK => by go_simp; exact hK), listed_nil (by simp [go_sem, ev_min2, ev_max2, *])⟩) ?_
 walk_nrm
 by_cases hlen : (1048576 : Int) < bs.length
 · clear co hv hC
   refine f_op (v := .bool true) rfl rfl (by k_ne) (fun w => ⟨run_eq_of (fun K hK => by have h9 := hlen; go_simp; exact hK), listed_nil (by have h9 := hlen; simp [go_sem, ev_min2, ev_max2, *])⟩) ?_
   walk_nrm
   refine f_ctl rfl (fun w => stepG_region_end) ?_
   refine f_ctl rfl (fun w => stepG_cond (t := true) (by simp [Act.eval])) ?_
   simp only [if_true, Bool.false_eq_true, if_false]
   refine f_ctl rfl (fun w => stepG_seq) ?_
   refine f_ctl rfl (fun w => stepG_region) ?_
   simp only [List.size_toArray, List.length_cons, List.length_nil, Nat.reduceAdd, Nat.zero_add, List.range, List.range.loop]
   refine f_op rfl rfl (by k_ne) (fun w => ⟨run_eq_of (fun K hK => by go_simp; exact hK), listed_nil (by simp [go_sem, ev_min2, ev_max2, *])⟩) ?_
   walk_nrm
   refine f_ctl rfl (fun w => stepG_region_end) ?_
   refine f_ctl rfl (fun w => stepG_ret') ?_
   refine Fine.fin (A := fun _ => False) (T := fun _ _ => 0) (d := 0) rfl rfl rfl Try.func7 (by kernel_rfl) (v := .bool true) (fun w _ => ?_) (fun w _ e he => ?_) (fun T d => ⟨rfl, Bel.tp _ T d⟩)
   · simp [results, Try.f7, go_sem, Frame.at]
   · rw [show (results Try.f7 _).events Try.prog w #[] = #[] by simp [results, Try.f7, go_sem, Frame.at]] at he
     simp at he
 · have hlen2 : ¬ (1048576 : Int) < bs.length := hlen
   refine f_op (v := .bool false) rfl rfl (by k_ne) (fun w => ⟨run_eq_of (fun K hK => by have h9 := hlen; go_simp; exact hK), listed_nil (by have h9 := hlen; simp [go_sem, ev_min2, ev_max2, *])⟩) ?_
   walk_nrm
   refine f_ctl rfl (fun w => stepG_region_end) ?_
   refine f_ctl rfl (fun w => stepG_cond (t := false) (by simp [Act.eval])) ?_
   simp only [if_true, Bool.false_eq_true, if_false]
   refine f_ctl rfl (fun w => stepG_skip) ?_
   refine f_ctl rfl (fun w => stepG_seq) ?_
   refine f_ctl rfl (fun w => stepG_region) ?_
   simp only [List.size_toArray, List.length_cons, List.length_nil, Nat.reduceAdd, Nat.zero_add, List.range, List.range.loop]
   refine f_op rfl rfl (by k_ne) (fun w => ⟨run_eq_of (fun K hK => by go_simp; exact hK), listed_nil (by simp [go_sem, ev_min2, ev_max2, *])⟩) ?_
   walk_nrm
   refine f_enter rfl rfl (by k_ne) rfl Try.func18 rfl rfl ?_
   walk_nrm
   refine Co.call co (R := fun v w' => ∃ (g o d : Nat) (f : List Bk), v = .slice (some ⟨g, o, none⟩) f.length d ∧ flSmall f ∧ Fl w' (some ⟨g, o, none⟩) f) (fun v w T d ⟨g, o, c, f, h1, h2, h3⟩ => ⟨g, o, c, f, h1, h2, h3.bel (Bel.pt w T d)⟩) (by kernel_rfl) (fun v hx => by simp at hx; subst hx; exact hv) (fun T d => (spec_DrawWearSpread A0 bs c (Go.Proofs.Ytclnogfmmekooaa.tp (cutW (good Gd) W) T d) (hC.tp T d)).mono fun e w' ⟨g, o, d, f, h1, h2, h3, h4⟩ => ⟨_, h1, ⟨g, o, d, f, rfl, h2, h3.fl⟩, h4⟩) ?_
   clear co
   rintro A v w hA co _ hv_f ⟨g, off, d, f, rfl, hsm, hf_f⟩
   have hv_a := hv.mono hA
   clear hA hv
   rw [Frame.finish_at]
   walk_nrm
   have hln := Lib.hid (small_len4 hsm)
   replace hln := hln.out
   refine f_op rfl rfl (by k_ne) (fun w => ⟨run_eq_of (fun K hK => by go_simp; exact hK), listed_nil (by simp [go_sem, ev_min2, ev_max2, *])⟩) ?_
   walk_nrm
   refine f_ctl rfl (fun w => stepG_region_end) ?_
   refine f_ctl rfl (fun w => stepG_seq) ?_
   refine f_ctl rfl (fun w => stepG_region) ?_
   simp only [List.size_toArray, List.length_cons, List.length_nil, Nat.reduceAdd, Nat.zero_add, List.range, List.range.loop]
   refine f_op rfl rfl (by k_ne) (fun w => ⟨run_eq_of (fun K hK => by go_simp; exact hK), listed_nil (by simp [go_sem, ev_min2, ev_max2, *])⟩) ?_
   walk_nrm
   refine f_enter rfl rfl (by k_ne) rfl Try.func14 rfl rfl ?_
   walk_nrm
   refine Co.wearSpread co hv_f hf_f ?_
   clear co
   intro w SB A hA co hb
   replace hv_f := hv_f.mono hA
   replace hf_f := hf_f.bel hb.cut
   replace hv_a := hv_a.mono hA
   clear hb hA
   rw [Frame.finish_at]
   walk_nrm
   refine f_op rfl rfl (by k_ne) (fun w => ⟨run_eq_of (fun K hK => by go_simp; exact hK), listed_nil (by simp [go_sem, ev_min2, ev_max2, *])⟩) ?_
   walk_nrm
   refine f_ctl rfl (fun w => stepG_region_end) ?_
   refine f_ctl rfl (fun w => stepG_seq) ?_
   refine f_ctl rfl (fun w => stepG_seq) ?_
   refine f_ctl rfl (fun w => stepG_region) ?_
   simp only [List.size_toArray, List.length_cons, List.length_nil, Nat.reduceAdd, Nat.zero_add, List.range, List.range.loop]
   refine f_op rfl rfl (by k_ne) (fun w => ⟨run_eq_of (fun K hK => by go_simp; exact hK), listed_nil (by simp [go_sem, ev_min2, ev_max2, *])⟩) ?_
   walk_nrm
   refine f_op rfl rfl (by k_ne) (fun w => ⟨run_eq_of (fun K hK => by go_simp; exact hK), listed_nil (by simp [go_sem, ev_min2, ev_max2, *])⟩) ?_
   walk_nrm
   refine f_enter rfl rfl (by k_ne) rfl Try.func12 rfl rfl ?_
   walk_nrm
   refine Co.call co (R := fun v _ => v = .int .i64 (if flashOk f then wHi f - wLo f else -1)) (fun _ _ _ _ h => h) (by kernel_rfl) (fun v hx => by simp at hx; subst hx; exact hv_f) (fun T d' => (spec_WearSpread f (some ⟨g, off, none⟩) d (Go.Proofs.Ytclnogfmmekooaa.tp (cutW (good Gd) w) T d') hln (hf_f.bel (Bel.tp _ T d'))).mono fun e w' ⟨h1, h2⟩ => ⟨_, h1, rfl, h2⟩) ?_
   clear co
   intro A v w hA co hb _ hv1
   subst hv1
   replace hv_f := hv_f.mono hA
   replace hf_f := hf_f.bel hb.cut
   replace hv_a := hv_a.mono hA
   clear hb hA
   rw [Frame.finish_at]
   walk_nrm
   refine f_op (v := .bool false) rfl rfl (by k_ne) (fun w => ⟨run_eq_of (fun K hK => by go_simp; exact hK), listed_nil (by simp [go_sem, ev_min2, ev_max2, *])⟩) ?_
   walk_nrm
   refine f_op rfl rfl (by k_ne) (fun w => ⟨run_eq_of (fun K hK => by go_simp; exact hK), listed_nil (by simp [go_sem, ev_min2, ev_max2, *])⟩) ?_
   walk_nrm
   refine f_op rfl rfl (by k_ne) (fun w => ⟨run_eq_of (fun K hK => by go_simp; exact hK), listed_nil (by simp [go_sem, ev_min2, ev_max2, *])⟩) ?_
   walk_nrm
   refine f_enter rfl rfl (by k_ne) rfl Try.func19 rfl rfl ?_
   walk_nrm
   refine Co.call co (R := fun v _ => v = .bool (flashOk f)) (fun _ _ _ _ h => h) (by kernel_rfl) (fun v hx => by simp at hx; subst hx; exact hv_f) (fun T d' => (spec_FlashOk f (some ⟨g, off, none⟩) d (Go.Proofs.Ytclnogfmmekooaa.tp (cutW (good Gd) w) T d') hln (hf_f.bel (Bel.tp _ T d'))).mono fun e w' ⟨h1, h2⟩ => ⟨_, h1, rfl, h2⟩) ?_
   clear co
   intro A v w hA co hb _ hv1
   subst hv1
   replace hv_f := hv_f.mono hA
   replace hf_f := hf_f.bel hb.cut
   replace hv_a := hv_a.mono hA
   clear hb hA
   rw [Frame.finish_at]
   walk_nrm
   cases hok : flashOk f with
   | false =>
     refine f_op (v := .bool true) rfl rfl (by k_ne) (fun w => ⟨run_eq_of (fun K hK => by have h9 := hok; go_simp; exact hK), listed_nil (by have h9 := hok; simp [go_sem, ev_min2, ev_max2, *])⟩) ?_
     walk_nrm
     refine f_op (v := .bool true) rfl rfl (by k_ne) (fun w => ⟨run_eq_of (fun K hK => by go_simp; exact hK), listed_nil (by simp [go_sem, ev_min2, ev_max2, *])⟩) ?_
     walk_nrm
     refine f_ctl rfl (fun w => stepG_region_end) ?_
     refine f_ctl rfl (fun w => stepG_cond (t := true) (by simp [Act.eval])) ?_
     simp only [if_true, Bool.false_eq_true, if_false]
     refine f_ctl rfl (fun w => stepG_seq) ?_
     refine f_ctl rfl (fun w => stepG_region) ?_
     simp only [List.size_toArray, List.length_cons, List.length_nil, Nat.reduceAdd, Nat.zero_add, List.range, List.range.loop]
     refine f_op rfl rfl (by k_ne) (fun w => ⟨run_eq_of (fun K hK => by go_simp; exact hK), listed_nil (by simp [go_sem, ev_min2, ev_max2, *])⟩) ?_
     walk_nrm
     refine f_op rfl rfl (by k_ne) (fun w => ⟨run_eq_of (fun K hK => by go_simp; exact hK), listed_nil (by simp [go_sem, ev_min2, ev_max2, *])⟩) ?_
     walk_nrm
     refine f_enter rfl rfl (by k_ne) rfl Try.func12 rfl rfl ?_
     walk_nrm
     refine Co.call co (R := fun v _ => v = .int .i64 (if flashOk f then wHi f - wLo f else -1)) (fun _ _ _ _ h => h) (by kernel_rfl) (fun v hx => by simp at hx; subst hx; exact hv_f) (fun T d' => (spec_WearSpread f (some ⟨g, off, none⟩) d (Go.Proofs.Ytclnogfmmekooaa.tp (cutW (good Gd) w) T d') hln (hf_f.bel (Bel.tp _ T d'))).mono fun e w' ⟨h1, h2⟩ => ⟨_, h1, rfl, h2⟩) ?_
     clear co
     intro A v w hA co hb _ hv1
     subst hv1
     replace hv_f := hv_f.mono hA
     replace hf_f := hf_f.bel hb.cut
     replace hv_a := hv_a.mono hA
     clear hb hA
     rw [Frame.finish_at]
     walk_nrm
     refine f_op (v := .bool true) rfl rfl (by k_ne) (fun w => ⟨run_eq_of (fun K hK => by have h9 := hok; go_simp; exact hK), listed_nil (by have h9 := hok; simp [go_sem, ev_min2, ev_max2, *])⟩) ?_
     walk_nrm
     refine f_op rfl rfl (by k_ne) (fun w => ⟨run_eq_of (fun K hK => by go_simp; exact hK), listed_nil (by simp [go_sem, ev_min2, ev_max2, *])⟩) ?_
     walk_nrm
     refine f_ctl rfl (fun w => stepG_region_end) ?_
     refine f_ctl rfl (fun w => stepG_ret') ?_
     refine Fine.fin (A := fun _ => False) (T := fun _ _ => 0) (d := 0) rfl rfl rfl Try.func7 (by kernel_rfl) (v := .bool true) (fun w _ => ?_) (fun w _ e he => ?_) (fun T d => ⟨rfl, co.bel.trans (Bel.tp _ T d)⟩)
     · simp [results, Try.f7, go_sem, Frame.at]
     · rw [show (results Try.f7 _).events Try.prog w #[] = #[] by simp [results, Try.f7, go_sem, Frame.at]] at he
       simp at he
   | true =>
     refine f_op (v := .bool false) rfl rfl (by k_ne) (fun w => ⟨run_eq_of (fun K hK => by have h9 := hok; go_simp; exact hK), listed_nil (by have h9 := hok; simp [go_sem, ev_min2, ev_max2, *])⟩) ?_
     walk_nrm
     refine f_op (v := .bool false) rfl rfl (by k_ne) (fun w => ⟨run_eq_of (fun K hK => by go_simp; exact hK), listed_nil (by simp [go_sem, ev_min2, ev_max2, *])⟩) ?_
     walk_nrm
     refine f_ctl rfl (fun w => stepG_region_end) ?_
     refine f_ctl rfl (fun w => stepG_cond (t := false) (by simp [Act.eval])) ?_
     simp only [if_true, Bool.false_eq_true, if_false]
     refine f_ctl rfl (fun w => stepG_skip) ?_
     refine f_ctl rfl (fun w => stepG_seq) ?_
     refine f_ctl rfl (fun w => stepG_region) ?_
     simp only [List.size_toArray, List.length_cons, List.length_nil, Nat.reduceAdd, Nat.zero_add, List.range, List.range.loop]
     refine f_op rfl rfl (by k_ne) (fun w => ⟨run_eq_of (fun K hK => by go_simp; exact hK), listed_nil (by simp [go_sem, ev_min2, ev_max2, *])⟩) ?_
     walk_nrm
     refine f_ctl rfl (fun w => stepG_region_end) ?_
     refine f_ctl rfl (fun w => stepG_seq) ?_
     refine f_ctl rfl (fun w => stepG_region) ?_
     simp only [List.size_toArray, List.length_cons, List.length_nil, Nat.reduceAdd, Nat.zero_add, List.range, List.range.loop]
     refine f_op rfl rfl (by k_ne) (fun w => ⟨run_eq_of (fun K hK => by go_simp; exact hK), listed_nil (by simp [go_sem, ev_min2, ev_max2, *])⟩) ?_
     walk_nrm
     refine f_ctl rfl (fun w => stepG_region_end) ?_
     refine f_ctl rfl (fun w => stepG_seq) ?_
     refine Co.wp (swQ (if true = true then wHi f - wLo f else -1) g off d f) co rfl (by kernel_rfl) (fun _ => rfl) (AllV.arr ?vin) rfl (fun a w T d h => h) (fun T d' => ?lone) ?_
     case vin => repeat' (first | exact AllV.nil | (refine AllV.cons (by first | exact .int _ _ | exact .bool _ | exact VIn.undef | exact hv_f | exact hv_a) ?_))
     case lone =>
      have hf := hf_f.bel (Bel.tp _ T d')
      have hp := fun Tx => swLoop (d := d) (n := if true = true then wHi f - wLo f else -1) (Bel.tp (cutW (good Gd) w) T d') hok hf Tx
      simp only [swC, Try.f7] at hp
      exact hp _ rfl rfl rfl rfl rfl
     clear co
     rintro A _ w hA co hb _ ⟨T, lo, hi, bl, bh, rfl, hT, t3, t4, t5, t6, hlo, hhi, hl1, hh1⟩
     replace hv_f := hv_f.mono hA
     replace hf_f := hf_f.bel hb.cut
     replace hv_a := hv_a.mono hA
     clear hb hA
     obtain ⟨v0, v1, v2, v3, v4, v5, v6, v7, v8, v9, v10, v11, v12, v13, v14, v15, v16, v17, v18, v19, v20, v21, v22, v23, v24, v25, v26, v27, v28, v29, v30, v31, v32, v33, v34, v35, v36, v37, v38, v39, v40, v41, v42, v43, v44, v45, v46, v47, v48, v49, v50, v51, v52, v53, v54, v55, v56, v57, v58, v59, v60, v61, v62, v63, v64, v65, v66, v67, v68, v69, v70, v71, v72, v73, v74, v75, v76, v77, v78, v79, v80, v81, v82, v83, v84, v85, v86, v87, v88, v89, v90, v91, v92, v93, rfl⟩ := arrs94 T hT
     simp only [List.getElem?_toArray, List.getElem?_cons_succ, List.getElem?_cons_zero, Option.some.injEq] at t3 t4 t5 t6
     subst t3 t4 t5 t6
     clear hv_a
     obtain ⟨x, one, ex⟩ : ∃ x one, flashWipe f (lo : Int) false = (x, one) := ⟨_, _, rfl⟩
     obtain ⟨y, two, ey⟩ : ∃ y two, flashWipe f (hi : Int) false = (y, two) := ⟨_, _, rfl⟩
     have hone : one = true → flashOk x = true ∧ wHi x - wLo x ≤ (if wHi f - wLo f < 1 then 1 else wHi f - wLo f) := by
      rw [flashWipe_at hok hlo] at ex
      split at ex
      · cases ex; intro e; cases e
      · rename_i h2
        cases ex; exact fun _ => ⟨wiped_keeps hok hlo h2 false, by have := spread_low hok hlo hl1 h2 false; split <;> omega⟩
     have htwo : two = true → flashOk y = true ∧ wHi y - wLo y = wHi f - wLo f + 1 := by
      rw [flashWipe_at hok hhi] at ey
      split at ey
      · cases ey; intro e; cases e
      · rename_i h2
        cases ey; exact fun _ => ⟨wiped_keeps hok hhi h2 false, spread_high hok hhi hh1 h2 false⟩
     have hwr : IntKind.i64.wrap (wHi f - wLo f + 1) = wHi f - wLo f + 1 := by
      have h1 := (wLo_ge hok).1
      have h2 : wHi f ≤ 200 := by
       obtain ⟨b, hb, e⟩ := wHi_mem hok
       have := ((flash_four hok).2 b hb).2.2; omega
      have h3 := spread_ge hok
      rw [IntKind.wrap_i64]; omega
     clear hlo hhi hl1 hh1
     refine f_ctl rfl (fun w => stepG_seq) ?_
     refine f_ctl rfl (fun w => stepG_region) ?_
     simp only [List.size_toArray, List.length_cons, List.length_nil, Nat.reduceAdd, Nat.zero_add, List.range, List.range.loop]
     refine f_op rfl rfl (by k_ne) (fun w => ⟨run_eq_of (fun K hK => by go_simp; exact hK), listed_nil (by simp [go_sem, ev_min2, ev_max2, *])⟩) ?_
     walk_nrm
     refine f_op rfl rfl (by k_ne) (fun w => ⟨run_eq_of (fun K hK => by go_simp; exact hK), listed_nil (by simp [go_sem, ev_min2, ev_max2, *])⟩) ?_
     walk_nrm
     refine f_enter rfl rfl (by k_ne) rfl Try.func22 rfl rfl ?_
     walk_nrm
     refine Co.call co (R := fun v w' => ∃ ad c, v = .tuple #[.slice ad x.length c, .bool one] ∧ Fl w' ad x) (fun v w T d ⟨ad, c, h1, h2⟩ => ⟨ad, c, h1, h2.bel (Bel.pt w T d)⟩) (by kernel_rfl) (fun v hx => by simp only [List.mem_toArray, List.mem_cons, List.not_mem_nil, or_false] at hx; rcases hx with rfl | rfl | rfl; exact hv_f; exact .int _ _; exact .bool _) (fun T d' => (show Calls Try.prog _ _ _ (FlPost (x, one) _) from ex ▸ impl_FlashWipe f (lo : Int) false (some ⟨g, off, none⟩) d (Go.Proofs.Ytclnogfmmekooaa.tp (cutW (good Gd) w) T d') (hf_f.bel (Bel.tp _ T d'))).mono fun e w' ⟨ad, c, h1, h2, h3, h4⟩ => ⟨_, h1, ⟨ad, c, rfl, h3.fl⟩, h4⟩) ?_
     clear co
     rintro A v w hA co hb hv_x ⟨ad_x, c_x, rfl, hf_x⟩
     replace hv_x := hv_x.pair
     replace hv_f := hv_f.mono hA
     replace hf_f := hf_f.bel hb.cut
     clear hb hA
     rw [Frame.finish_at]
     walk_nrm
     refine f_op rfl rfl (by k_ne) (fun w => ⟨run_eq_of (fun K hK => by go_simp; exact hK), listed_nil (by simp [go_sem, ev_min2, ev_max2, *])⟩) ?_
     walk_nrm
     refine f_op rfl rfl (by k_ne) (fun w => ⟨run_eq_of (fun K hK => by go_simp; exact hK), listed_nil (by simp [go_sem, ev_min2, ev_max2, *])⟩) ?_
     walk_nrm
     refine f_op rfl rfl (by k_ne) (fun w => ⟨run_eq_of (fun K hK => by go_simp; exact hK), listed_nil (by simp [go_sem, ev_min2, ev_max2, *])⟩) ?_
     walk_nrm
     refine f_op rfl rfl (by k_ne) (fun w => ⟨run_eq_of (fun K hK => by go_simp; exact hK), listed_nil (by simp [go_sem, ev_min2, ev_max2, *])⟩) ?_
     walk_nrm
     refine f_op rfl rfl (by k_ne) (fun w => ⟨run_eq_of (fun K hK => by go_simp; exact hK), listed_nil (by simp [go_sem, ev_min2, ev_max2, *])⟩) ?_
     walk_nrm
     refine f_ctl rfl (fun w => stepG_region_end) ?_
     refine f_ctl rfl (fun w => stepG_seq) ?_
     refine f_ctl rfl (fun w => stepG_region) ?_
     simp only [List.size_toArray, List.length_cons, List.length_nil, Nat.reduceAdd, Nat.zero_add, List.range, List.range.loop]
     refine f_op rfl rfl (by k_ne) (fun w => ⟨run_eq_of (fun K hK => by go_simp; exact hK), listed_nil (by simp [go_sem, ev_min2, ev_max2, *])⟩) ?_
     walk_nrm
     refine f_op rfl rfl (by k_ne) (fun w => ⟨run_eq_of (fun K hK => by go_simp; exact hK), listed_nil (by simp [go_sem, ev_min2, ev_max2, *])⟩) ?_
     walk_nrm
     refine f_enter rfl rfl (by k_ne) rfl Try.func22 rfl rfl ?_
     walk_nrm
     refine Co.call co (R := fun v w' => ∃ ad c, v = .tuple #[.slice ad y.length c, .bool two] ∧ Fl w' ad y) (fun v w T d ⟨ad, c, h1, h2⟩ => ⟨ad, c, h1, h2.bel (Bel.pt w T d)⟩) (by kernel_rfl) (fun v hx => by simp only [List.mem_toArray, List.mem_cons, List.not_mem_nil, or_false] at hx; rcases hx with rfl | rfl | rfl; exact hv_f; exact .int _ _; exact .bool _) (fun T d' => (show Calls Try.prog _ _ _ (FlPost (y, two) _) from ey ▸ impl_FlashWipe f (hi : Int) false (some ⟨g, off, none⟩) d (Go.Proofs.Ytclnogfmmekooaa.tp (cutW (good Gd) w) T d') (hf_f.bel (Bel.tp _ T d'))).mono fun e w' ⟨ad, c, h1, h2, h3, h4⟩ => ⟨_, h1, ⟨ad, c, rfl, h3.fl⟩, h4⟩) ?_
     clear co
     rintro A v w hA co hb hv_y ⟨ad_y, c_y, rfl, hf_y⟩
     replace hv_y := hv_y.pair
     replace hv_f := hv_f.mono hA
     replace hf_f := hf_f.bel hb.cut
     replace hv_x := hv_x.mono hA
     replace hf_x := hf_x.bel hb.cut
     clear hb hA
     rw [Frame.finish_at]
     walk_nrm
     refine f_op rfl rfl (by k_ne) (fun w => ⟨run_eq_of (fun K hK => by go_simp; exact hK), listed_nil (by simp [go_sem, ev_min2, ev_max2, *])⟩) ?_
     walk_nrm
     refine f_op rfl rfl (by k_ne) (fun w => ⟨run_eq_of (fun K hK => by go_simp; exact hK), listed_nil (by simp [go_sem, ev_min2, ev_max2, *])⟩) ?_
     walk_nrm
     refine f_op rfl rfl (by k_ne) (fun w => ⟨run_eq_of (fun K hK => by go_simp; exact hK), listed_nil (by simp [go_sem, ev_min2, ev_max2, *])⟩) ?_
     walk_nrm
     refine f_op rfl rfl (by k_ne) (fun w => ⟨run_eq_of (fun K hK => by go_simp; exact hK), listed_nil (by simp [go_sem, ev_min2, ev_max2, *])⟩) ?_
     walk_nrm
     refine f_op rfl rfl (by k_ne) (fun w => ⟨run_eq_of (fun K hK => by go_simp; exact hK), listed_nil (by simp [go_sem, ev_min2, ev_max2, *])⟩) ?_
     walk_nrm
     refine f_ctl rfl (fun w => stepG_region_end) ?_
     refine f_ctl rfl (fun w => stepG_seq) ?_
     refine f_ctl rfl (fun w => stepG_region) ?_
     simp only [List.size_toArray, List.length_cons, List.length_nil, Nat.reduceAdd, Nat.zero_add, List.range, List.range.loop]
     refine f_op rfl rfl (by k_ne) (fun w => ⟨run_eq_of (fun K hK => by go_simp; exact hK), listed_nil (by simp [go_sem, ev_min2, ev_max2, *])⟩) ?_
     walk_nrm
     cases one with
     | false =>
       refine f_op (v := .bool true) rfl rfl (by k_ne) (fun w => ⟨run_eq_of (fun K hK => by go_simp; exact hK), listed_nil (by simp [go_sem, ev_min2, ev_max2, *])⟩) ?_
       walk_nrm
       refine f_op (v := .bool true) rfl rfl (by k_ne) (fun w => ⟨run_eq_of (fun K hK => by go_simp; exact hK), listed_nil (by simp [go_sem, ev_min2, ev_max2, *])⟩) ?_
       walk_nrm
       refine f_skip rfl rfl ?_
       walk_nrm
       refine f_skip rfl rfl ?_
       walk_nrm
       refine f_skip rfl rfl ?_
       walk_nrm
       refine f_skip rfl rfl ?_
       walk_nrm
       refine f_skip rfl rfl ?_
       walk_nrm
       refine f_op (v := .bool true) rfl rfl (by k_ne) (fun w => ⟨run_eq_of (fun K hK => by go_simp; exact hK), listed_nil (by simp [go_sem, ev_min2, ev_max2, *])⟩) ?_
       walk_nrm
       refine f_op (v := .bool true) rfl rfl (by k_ne) (fun w => ⟨run_eq_of (fun K hK => by go_simp; exact hK), listed_nil (by simp [go_sem, ev_min2, ev_max2, *])⟩) ?_
       walk_nrm
       cases two with
       | false =>
         refine f_op rfl rfl (by k_ne) (fun w => ⟨run_eq_of (fun K hK => by go_simp; exact hK), listed_nil (by simp [go_sem, ev_min2, ev_max2, *])⟩) ?_
         walk_nrm
         refine f_op (v := .bool true) rfl rfl (by k_ne) (fun w => ⟨run_eq_of (fun K hK => by go_simp; exact hK), listed_nil (by simp [go_sem, ev_min2, ev_max2, *])⟩) ?_
         walk_nrm
         refine f_op (v := .bool true) rfl rfl (by k_ne) (fun w => ⟨run_eq_of (fun K hK => by go_simp; exact hK), listed_nil (by simp [go_sem, ev_min2, ev_max2, *])⟩) ?_
         walk_nrm
         refine f_skip rfl rfl ?_
         walk_nrm
         refine f_skip rfl rfl ?_
         walk_nrm
         refine f_skip rfl rfl ?_
         walk_nrm
         refine f_skip rfl rfl ?_
         walk_nrm
         refine f_skip rfl rfl ?_
         walk_nrm
         refine f_op (v := .bool true) rfl rfl (by k_ne) (fun w => ⟨run_eq_of (fun K hK => by go_simp; exact hK), listed_nil (by simp [go_sem, ev_min2, ev_max2, *])⟩) ?_
         walk_nrm
         refine f_op (v := .bool true) rfl rfl (by k_ne) (fun w => ⟨run_eq_of (fun K hK => by go_simp; exact hK), listed_nil (by simp [go_sem, ev_min2, ev_max2, *])⟩) ?_
         walk_nrm
         refine f_op rfl rfl (by k_ne) (fun w => ⟨run_eq_of (fun K hK => by go_simp; exact hK), listed_nil (by simp [go_sem, ev_min2, ev_max2, *])⟩) ?_
         walk_nrm
         refine f_ctl rfl (fun w => stepG_region_end) ?_
         refine f_ctl rfl (fun w => stepG_ret') ?_
         refine Fine.fin (A := fun _ => False) (T := fun _ _ => 0) (d := 0) rfl rfl rfl Try.func7 (by kernel_rfl) (v := .bool true) (fun w _ => ?_) (fun w _ e he => ?_) (fun T d => ⟨rfl, co.bel.trans (Bel.tp _ T d)⟩)
         · simp [results, Try.f7, go_sem, Frame.at]
         · rw [show (results Try.f7 _).events Try.prog w #[] = #[] by simp [results, Try.f7, go_sem, Frame.at]] at he
           simp at he
       | true =>
         obtain ⟨hy1, hy2⟩ := htwo rfl
         refine f_op rfl rfl (by k_ne) (fun w => ⟨run_eq_of (fun K hK => by go_simp; exact hK), listed_nil (by simp [go_sem, ev_min2, ev_max2, *])⟩) ?_
         walk_nrm
         refine f_op (v := .bool false) rfl rfl (by k_ne) (fun w => ⟨run_eq_of (fun K hK => by go_simp; exact hK), listed_nil (by simp [go_sem, ev_min2, ev_max2, *])⟩) ?_
         walk_nrm
         refine f_op (v := .bool false) rfl rfl (by k_ne) (fun w => ⟨run_eq_of (fun K hK => by go_simp; exact hK), listed_nil (by simp [go_sem, ev_min2, ev_max2, *])⟩) ?_
         walk_nrm
         refine f_op rfl rfl (by k_ne) (fun w => ⟨run_eq_of (fun K hK => by go_simp; exact hK), listed_nil (by simp [go_sem, ev_min2, ev_max2, *])⟩) ?_
         walk_nrm
         refine f_enter rfl rfl (by k_ne) rfl Try.func14 rfl rfl ?_
         walk_nrm
         refine Co.wearSpread co hv_y hf_y ?_
         clear co
         intro w SB A hA co hb
         replace hv_f := hv_f.mono hA
         replace hf_f := hf_f.bel hb.cut
         replace hv_x := hv_x.mono hA
         replace hf_x := hf_x.bel hb.cut
         replace hv_y := hv_y.mono hA
         replace hf_y := hf_y.bel hb.cut
         clear hb hA
         rw [Frame.finish_at]
         walk_nrm
         refine f_op rfl rfl (by k_ne) (fun w => ⟨run_eq_of (fun K hK => by go_simp; exact hK), listed_nil (by simp [go_sem, ev_min2, ev_max2, *])⟩) ?_
         walk_nrm
         refine f_op (v := .int .i64 (wHi f - wLo f + 1)) rfl rfl (by k_ne) (fun w => ⟨run_eq_of (fun K hK => by have h9 := hwr; go_simp; exact hK), listed_nil (by have h9 := hwr; simp [go_sem, ev_min2, ev_max2, *])⟩) ?_
         walk_nrm
         refine f_op (v := .bool true) rfl rfl (by k_ne) (fun w => ⟨run_eq_of (fun K hK => by have h9 := hy1; have h8 := hy2; go_simp; exact hK), listed_nil (by have h9 := hy1; have h8 := hy2; simp [go_sem, ev_min2, ev_max2, *])⟩) ?_
         walk_nrm
         refine f_op (v := .bool true) rfl rfl (by k_ne) (fun w => ⟨run_eq_of (fun K hK => by go_simp; exact hK), listed_nil (by simp [go_sem, ev_min2, ev_max2, *])⟩) ?_
         walk_nrm
         refine f_op (v := .bool true) rfl rfl (by k_ne) (fun w => ⟨run_eq_of (fun K hK => by go_simp; exact hK), listed_nil (by simp [go_sem, ev_min2, ev_max2, *])⟩) ?_
         walk_nrm
         refine f_op rfl rfl (by k_ne) (fun w => ⟨run_eq_of (fun K hK => by go_simp; exact hK), listed_nil (by simp [go_sem, ev_min2, ev_max2, *])⟩) ?_
         walk_nrm
         refine f_ctl rfl (fun w => stepG_region_end) ?_
         refine f_ctl rfl (fun w => stepG_ret') ?_
         refine Fine.fin (A := fun _ => False) (T := fun _ _ => 0) (d := 0) rfl rfl rfl Try.func7 (by kernel_rfl) (v := .bool true) (fun w _ => ?_) (fun w _ e he => ?_) (fun T d => ⟨rfl, co.bel.trans (Bel.tp _ T d)⟩)
         · simp [results, Try.f7, go_sem, Frame.at]
         · rw [show (results Try.f7 _).events Try.prog w #[] = #[] by simp [results, Try.f7, go_sem, Frame.at]] at he
           simp at he
     | true =>
       obtain ⟨hx1, hx2⟩ := hone rfl
       refine f_op (v := .bool false) rfl rfl (by k_ne) (fun w => ⟨run_eq_of (fun K hK => by go_simp; exact hK), listed_nil (by simp [go_sem, ev_min2, ev_max2, *])⟩) ?_
       walk_nrm
       refine f_op (v := .bool false) rfl rfl (by k_ne) (fun w => ⟨run_eq_of (fun K hK => by go_simp; exact hK), listed_nil (by simp [go_sem, ev_min2, ev_max2, *])⟩) ?_
       walk_nrm
       refine f_op rfl rfl (by k_ne) (fun w => ⟨run_eq_of (fun K hK => by go_simp; exact hK), listed_nil (by simp [go_sem, ev_min2, ev_max2, *])⟩) ?_
       walk_nrm
       refine f_enter rfl rfl (by k_ne) rfl Try.func14 rfl rfl ?_
       walk_nrm
       refine Co.wearSpread co hv_x hf_x ?_
       clear co
       intro w SB A hA co hb
       replace hv_f := hv_f.mono hA
       replace hf_f := hf_f.bel hb.cut
       replace hv_x := hv_x.mono hA
       replace hf_x := hf_x.bel hb.cut
       replace hv_y := hv_y.mono hA
       replace hf_y := hf_y.bel hb.cut
       clear hb hA
       rw [Frame.finish_at]
       walk_nrm
       refine f_op rfl rfl (by k_ne) (fun w => ⟨run_eq_of (fun K hK => by go_simp; exact hK), listed_nil (by simp [go_sem, ev_min2, ev_max2, *])⟩) ?_
       walk_nrm
       refine f_op (v := .int .i64 (if wHi f - wLo f < 1 then 1 else wHi f - wLo f)) rfl rfl (by k_ne) (fun w => ⟨run_eq_of (fun K hK => by go_simp; exact hK), listed_nil (by simp [go_sem, ev_min2, ev_max2, *])⟩) ?_
       walk_nrm
       refine f_op (v := .bool true) rfl rfl (by k_ne) (fun w => ⟨run_eq_of (fun K hK => by have h9 := hx1; have h8 := hx2; go_simp; exact hK), listed_nil (by have h9 := hx1; have h8 := hx2; simp [go_sem, ev_min2, ev_max2, *])⟩) ?_
       walk_nrm
       refine f_op (v := .bool true) rfl rfl (by k_ne) (fun w => ⟨run_eq_of (fun K hK => by go_simp; exact hK), listed_nil (by simp [go_sem, ev_min2, ev_max2, *])⟩) ?_
       walk_nrm
       refine f_op (v := .bool true) rfl rfl (by k_ne) (fun w => ⟨run_eq_of (fun K hK => by go_simp; exact hK), listed_nil (by simp [go_sem, ev_min2, ev_max2, *])⟩) ?_
       walk_nrm
       cases two with
       | false =>
         refine f_op rfl rfl (by k_ne) (fun w => ⟨run_eq_of (fun K hK => by go_simp; exact hK), listed_nil (by simp [go_sem, ev_min2, ev_max2, *])⟩) ?_
         walk_nrm
         refine f_op (v := .bool true) rfl rfl (by k_ne) (fun w => ⟨run_eq_of (fun K hK => by go_simp; exact hK), listed_nil (by simp [go_sem, ev_min2, ev_max2, *])⟩) ?_
         walk_nrm
         refine f_op (v := .bool true) rfl rfl (by k_ne) (fun w => ⟨run_eq_of (fun K hK => by go_simp; exact hK), listed_nil (by simp [go_sem, ev_min2, ev_max2, *])⟩) ?_
         walk_nrm
         refine f_skip rfl rfl ?_
         walk_nrm
         refine f_skip rfl rfl ?_
         walk_nrm
         refine f_skip rfl rfl ?_
         walk_nrm
         refine f_skip rfl rfl ?_
         walk_nrm
         refine f_skip rfl rfl ?_
         walk_nrm
         refine f_op (v := .bool true) rfl rfl (by k_ne) (fun w => ⟨run_eq_of (fun K hK => by go_simp; exact hK), listed_nil (by simp [go_sem, ev_min2, ev_max2, *])⟩) ?_
         walk_nrm
         refine f_op (v := .bool true) rfl rfl (by k_ne) (fun w => ⟨run_eq_of (fun K hK => by go_simp; exact hK), listed_nil (by simp [go_sem, ev_min2, ev_max2, *])⟩) ?_
         walk_nrm
         refine f_op rfl rfl (by k_ne) (fun w => ⟨run_eq_of (fun K hK => by go_simp; exact hK), listed_nil (by simp [go_sem, ev_min2, ev_max2, *])⟩) ?_
         walk_nrm
         refine f_ctl rfl (fun w => stepG_region_end) ?_
         refine f_ctl rfl (fun w => stepG_ret') ?_
         refine Fine.fin (A := fun _ => False) (T := fun _ _ => 0) (d := 0) rfl rfl rfl Try.func7 (by kernel_rfl) (v := .bool true) (fun w _ => ?_) (fun w _ e he => ?_) (fun T d => ⟨rfl, co.bel.trans (Bel.tp _ T d)⟩)
         · simp [results, Try.f7, go_sem, Frame.at]
         · rw [show (results Try.f7 _).events Try.prog w #[] = #[] by simp [results, Try.f7, go_sem, Frame.at]] at he
           simp at he
       | true =>
         obtain ⟨hy1, hy2⟩ := htwo rfl
         refine f_op rfl rfl (by k_ne) (fun w => ⟨run_eq_of (fun K hK => by go_simp; exact hK), listed_nil (by simp [go_sem, ev_min2, ev_max2, *])⟩) ?_
         walk_nrm
         refine f_op (v := .bool false) rfl rfl (by k_ne) (fun w => ⟨run_eq_of (fun K hK => by go_simp; exact hK), listed_nil (by simp [go_sem, ev_min2, ev_max2, *])⟩) ?_
         walk_nrm
         refine f_op (v := .bool false) rfl rfl (by k_ne) (fun w => ⟨run_eq_of (fun K hK => by go_simp; exact hK), listed_nil (by simp [go_sem, ev_min2, ev_max2, *])⟩) ?_
         walk_nrm
         refine f_op rfl rfl (by k_ne) (fun w => ⟨run_eq_of (fun K hK => by go_simp; exact hK), listed_nil (by simp [go_sem, ev_min2, ev_max2, *])⟩) ?_
         walk_nrm
         refine f_enter rfl rfl (by k_ne) rfl Try.func14 rfl rfl ?_
         walk_nrm
         refine Co.wearSpread co hv_y hf_y ?_
         clear co
         intro w SB A hA co hb
         replace hv_f := hv_f.mono hA
         replace hf_f := hf_f.bel hb.cut
         replace hv_x := hv_x.mono hA
         replace hf_x := hf_x.bel hb.cut
         replace hv_y := hv_y.mono hA
         replace hf_y := hf_y.bel hb.cut
         clear hb hA
         rw [Frame.finish_at]
         walk_nrm
         refine f_op rfl rfl (by k_ne) (fun w => ⟨run_eq_of (fun K hK => by go_simp; exact hK), listed_nil (by simp [go_sem, ev_min2, ev_max2, *])⟩) ?_
         walk_nrm
         refine f_op (v := .int .i64 (wHi f - wLo f + 1)) rfl rfl (by k_ne) (fun w => ⟨run_eq_of (fun K hK => by have h9 := hwr; go_simp; exact hK), listed_nil (by have h9 := hwr; simp [go_sem, ev_min2, ev_max2, *])⟩) ?_
         walk_nrm
         refine f_op (v := .bool true) rfl rfl (by k_ne) (fun w => ⟨run_eq_of (fun K hK => by have h9 := hy1; have h8 := hy2; go_simp; exact hK), listed_nil (by have h9 := hy1; have h8 := hy2; simp [go_sem, ev_min2, ev_max2, *])⟩) ?_
         walk_nrm
         refine f_op (v := .bool true) rfl rfl (by k_ne) (fun w => ⟨run_eq_of (fun K hK => by go_simp; exact hK), listed_nil (by simp [go_sem, ev_min2, ev_max2, *])⟩) ?_
         walk_nrm
         refine f_op (v := .bool true) rfl rfl (by k_ne) (fun w => ⟨run_eq_of (fun K hK => by go_simp; exact hK), listed_nil (by simp [go_sem, ev_min2, ev_max2, *])⟩) ?_
         walk_nrm
         refine f_op rfl rfl (by k_ne) (fun w => ⟨run_eq_of (fun K hK => by go_simp; exact hK), listed_nil (by simp [go_sem, ev_min2, ev_max2, *])⟩) ?_
         walk_nrm
         refine f_ctl rfl (fun w => stepG_region_end) ?_
         refine f_ctl rfl (fun w => stepG_ret') ?_
         refine Fine.fin (A := fun _ => False) (T := fun _ _ => 0) (d := 0) rfl rfl rfl Try.func7 (by kernel_rfl) (v := .bool true) (fun w _ => ?_) (fun w _ e he => ?_) (fun T d => ⟨rfl, co.bel.trans (Bel.tp _ T d)⟩)
         · simp [results, Try.f7, go_sem, Frame.at]
         · rw [show (results Try.f7 _).events Try.prog w #[] = #[] by simp [results, Try.f7, go_sem, Frame.at]] at he
           simp at he
end Go.Proofs.Ytclnogfmmekooaa
