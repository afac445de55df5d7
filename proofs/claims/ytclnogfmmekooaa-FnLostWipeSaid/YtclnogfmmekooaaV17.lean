/- The law FnLostWipe beside leavers. (Printed by genv16.py.) -/
import Derived.Test.YtclnogfmmekooaaV16
namespace Go.Proofs.Ytclnogfmmekooaa
set_option linter.unusedVariables false
set_option linter.unusedSimpArgs false
open Go.Conc Go.ConcN Go.ConcR.Gen Go.RowKit
set_option maxRecDepth 100000
set_option maxHeartbeats 8000000
theorem law_FnLostWipe {W : World} (A0 : Option Addr) (bs : List Nat) (c : Nat) (hc : Code W A0 bs c) (hl : Lain W A0) (A1 : Option Addr) (bs1 : List Nat) (c1 : Nat) (_ : Code W A1 bs1 c1) (_ : Lain W A1) :
 Fine Try.prog (fun v w' => v = .bool true ∧ Bel W w') (fun _ => False) (G (Frame.enter Try.prog 8 #[.slice A0 bs.length c, .slice A1 bs1.length c1] .normal) []) W := by
 obtain ⟨Gd, A, co, hv, hC⟩ := start_co hc hl
 rw [enter_at _ Try.func8 rfl]
 walk_nrmf Try.f8
 refine f_ctl rfl (fun w => stepG_seq) ?_
 refine f_ctl rfl (fun w => stepG_region) ?_
 simp only [List.size_toArray, List.length_cons, List.length_nil, Nat.reduceAdd, Nat.zero_add, List.range, List.range.loop]
 refine f_op rfl rfl (by k_ne) (fun w => ⟨run_eq_of (fun K hK => by go_simp; exact hK), listed_nil (by simp [go_sem, ev_min2, ev_max2, *])⟩) ?_
 walk_nrm
 refine f_ctl rfl (fun w => stepG_region_end) ?_
 refine f_ctl rfl (fun w => stepG_seq) ?_
 refine f_ctl rfl (fun w => stepG_seq) ?_
 refine f_ctl rfl (fun w => stepG_region) ?_
 simp only [List.size_toArray, List.length_cons, List.length_nil, Nat.reduceAdd, Nat.zero_add, List.range, List.range.loop]
 refine f_op rfl rfl (by k_ne) (fun w => ⟨run_eq_of (fun K hK => by go_simp; exact hK), listed_nil (by simp [go_sem, ev_min2, ev_max2, *])⟩) ?_
 walk_nrm
 refine f_op rfl rfl (by k_ne) (fun w => ⟨run_eq_of (fun K hK => by go_simp; exact hK), listed_nil (by simp [go_sem, ev_min2, ev_max2, *])⟩) ?_
 walk_nrm
 by_cases hlen : (1048576 : Int) < bs.length
 · clear co hv hC
   refine f_op (v := .bool true) rfl rfl (by k_ne) (fun w => ⟨run_eq_of (fun K hK => by have h9 := hlen; go_simp; exact hK), listed_nil (by have h9 := hlen; simp [go_sem, ev_min2, ev_max2, *])⟩) ?_
   walk_nrm
   refine f_op rfl rfl (by k_ne) (fun w => ⟨run_eq_of (fun K hK => by go_simp; exact hK), listed_nil (by simp [go_sem, ev_min2, ev_max2, *])⟩) ?_
   walk_nrm
   refine f_skip rfl rfl ?_
   walk_nrm
   refine f_skip rfl rfl ?_
   walk_nrm
   refine f_skip rfl rfl ?_
   walk_nrm
   refine f_op (v := .bool true) rfl rfl (by k_ne) (fun w => ⟨run_eq_of (fun K hK => by go_simp; exact hK), listed_nil (by simp [go_sem, ev_min2, ev_max2, *])⟩) ?_
   walk_nrm
   refine f_ctl rfl (fun w => stepG_region_end) ?_
   refine f_ctl rfl (fun w => stepG_cond (t := true) (by simp [Act.eval])) ?_
   simp only [if_true, Bool.false_eq_true, if_false]
   refine f_ctl rfl (fun w => stepG_seq) ?_
   refine f_ctl rfl (fun w => stepG_region) ?_
   simp only [List.size_toArray, List.length_cons, List.length_nil, Nat.reduceAdd, Nat.zero_add, List.range, List.range.loop]
   refine f_op rfl rfl (by k_ne) (fun w => ⟨run_eq_of (fun K hK => by go_simp; exact hK), listed_nil (by simp [go_sem, ev_min2, ev_max2, *])⟩) ?_
   walk_nrm
   refine f_ctl rfl (fun w => stepG_region_end) ?_
   refine f_ctl rfl (fun w => stepG_ret') ?_
   refine Fine.fin (A := fun _ => False) (T := fun _ _ => 0) (d := 0) rfl rfl rfl Try.func8 (by kernel_rfl) (v := .bool true) (fun w _ => ?_) (fun w _ e he => ?_) (fun T d => ⟨rfl, Bel.tp _ T d⟩)
   · simp [results, Try.f8, go_sem, Frame.at]
   · rw [show (results Try.f8 _).events Try.prog w #[] = #[] by simp [results, Try.f8, go_sem, Frame.at]] at he
     simp at he
 · have hlen2 : ¬ (1048576 : Int) < bs.length := hlen
   refine f_op (v := .bool false) rfl rfl (by k_ne) (fun w => ⟨run_eq_of (fun K hK => by have h9 := hlen; go_simp; exact hK), listed_nil (by have h9 := hlen; simp [go_sem, ev_min2, ev_max2, *])⟩) ?_
   walk_nrm
   refine f_op rfl rfl (by k_ne) (fun w => ⟨run_eq_of (fun K hK => by go_simp; exact hK), listed_nil (by simp [go_sem, ev_min2, ev_max2, *])⟩) ?_
   walk_nrm
   refine f_op rfl rfl (by k_ne) (fun w => ⟨run_eq_of (fun K hK => by go_simp; exact hK), listed_nil (by simp [go_sem, ev_min2, ev_max2, *])⟩) ?_
   walk_nrm
   refine f_op rfl rfl (by k_ne) (fun w => ⟨run_eq_of (fun K hK => by go_simp; exact hK), listed_nil (by simp [go_sem, ev_min2, ev_max2, *])⟩) ?_
   walk_nrm
   by_cases hm : (1048576 : Int) < bs1.length
   · clear co hv hC
     refine f_op (v := .bool true) rfl rfl (by k_ne) (fun w => ⟨run_eq_of (fun K hK => by have h9 := hm; go_simp; exact hK), listed_nil (by have h9 := hm; simp [go_sem, ev_min2, ev_max2, *])⟩) ?_
     walk_nrm
     refine f_op (v := .bool true) rfl rfl (by k_ne) (fun w => ⟨run_eq_of (fun K hK => by go_simp; exact hK), listed_nil (by simp [go_sem, ev_min2, ev_max2, *])⟩) ?_
     walk_nrm
     refine f_ctl rfl (fun w => stepG_region_end) ?_
     refine f_ctl rfl (fun w => stepG_cond (t := true) (by simp [Act.eval])) ?_
     simp only [if_true, Bool.false_eq_true, if_false]
     refine f_ctl rfl (fun w => stepG_seq) ?_
     refine f_ctl rfl (fun w => stepG_region) ?_
     simp only [List.size_toArray, List.length_cons, List.length_nil, Nat.reduceAdd, Nat.zero_add, List.range, List.range.loop]
     refine f_op rfl rfl (by k_ne) (fun w => ⟨run_eq_of (fun K hK => by go_simp; exact hK), listed_nil (by simp [go_sem, ev_min2, ev_max2, *])⟩) ?_
     walk_nrm
     refine f_ctl rfl (fun w => stepG_region_end) ?_
     refine f_ctl rfl (fun w => stepG_ret') ?_
     refine Fine.fin (A := fun _ => False) (T := fun _ _ => 0) (d := 0) rfl rfl rfl Try.func8 (by kernel_rfl) (v := .bool true) (fun w _ => ?_) (fun w _ e he => ?_) (fun T d => ⟨rfl, Bel.tp _ T d⟩)
     · simp [results, Try.f8, go_sem, Frame.at]
     · rw [show (results Try.f8 _).events Try.prog w #[] = #[] by simp [results, Try.f8, go_sem, Frame.at]] at he
       simp at he
   · have hm2 : ¬ (1048576 : Int) < bs1.length := hm
     refine f_op (v := .bool false) rfl rfl (by k_ne) (fun w => ⟨run_eq_of (fun K hK => by have h9 := hm; go_simp; exact hK), listed_nil (by have h9 := hm; simp [go_sem, ev_min2, ev_max2, *])⟩) ?_
     walk_nrm
     refine f_op (v := .bool false) rfl rfl (by k_ne) (fun w => ⟨run_eq_of (fun K hK => by go_simp; exact hK), listed_nil (by simp [go_sem, ev_min2, ev_max2, *])⟩) ?_
     walk_nrm
     refine f_ctl rfl (fun w => stepG_region_end) ?_
     refine f_ctl rfl (fun w => stepG_cond (t := false) (by simp [Act.eval])) ?_
     simp only [if_true, Bool.false_eq_true, if_false]
     refine f_ctl rfl (fun w => stepG_skip) ?_
     refine f_ctl rfl (fun w => stepG_seq) ?_
     refine f_ctl rfl (fun w => stepG_region) ?_
     simp only [List.size_toArray, List.length_cons, List.length_nil, Nat.reduceAdd, Nat.zero_add, List.range, List.range.loop]
     refine f_op rfl rfl (by k_ne) (fun w => ⟨run_eq_of (fun K hK => by go_simp; exact hK), listed_nil (by simp [go_sem, ev_min2, ev_max2, *])⟩) ?_
     walk_nrm
     refine f_enter rfl rfl (by k_ne) rfl Try.func23 rfl rfl ?_
     walk_nrm
     refine Co.call co (R := fun v w' => ∃ (g o d : Nat) (f : List Bk), v = .slice (some ⟨g, o, none⟩) f.length d ∧ flSmall f ∧ Fl w' (some ⟨g, o, none⟩) f) (fun v w T d ⟨g, o, c, f, h1, h2, h3⟩ => ⟨g, o, c, f, h1, h2, h3.bel (Bel.pt w T d)⟩) (by kernel_rfl) (fun v hx => by simp at hx; subst hx; exact hv) (fun T d => (spec_DrawWearLost A0 bs c (Go.Proofs.Ytclnogfmmekooaa.tp (cutW (good Gd) W) T d) (hC.tp T d)).mono fun e w' ⟨g, o, d, f, h1, h2, h3, h4⟩ => ⟨_, h1, ⟨g, o, d, f, rfl, h2, h3.fl⟩, h4⟩) ?_
     clear co hv
     rintro A v w hA co _ hv_f ⟨g, off, d, f, rfl, hsm, hf_f⟩
     clear hA
     rw [Frame.finish_at]
     walk_nrm
     have hln := Lib.hid (small_len4 hsm)
     replace hln := hln.out
     refine f_op rfl rfl (by k_ne) (fun w => ⟨run_eq_of (fun K hK => by go_simp; exact hK), listed_nil (by simp [go_sem, ev_min2, ev_max2, *])⟩) ?_
     walk_nrm
     refine f_ctl rfl (fun w => stepG_region_end) ?_
     refine f_ctl rfl (fun w => stepG_seq) ?_
     refine f_ctl rfl (fun w => stepG_region) ?_
     simp only [List.size_toArray, List.length_cons, List.length_nil, Nat.reduceAdd, Nat.zero_add, List.range, List.range.loop]
     refine f_op rfl rfl (by k_ne) (fun w => ⟨run_eq_of (fun K hK => by go_simp; exact hK), listed_nil (by simp [go_sem, ev_min2, ev_max2, *])⟩) ?_
     walk_nrm
     refine f_enter rfl rfl (by k_ne) rfl Try.func17 rfl rfl ?_
     walk_nrm
     refine Co.wearLost co hv_f hf_f ?_
     clear co
     intro w SB A hA co hb
     replace hv_f := hv_f.mono hA
     replace hf_f := hf_f.bel hb.cut
     clear hb hA
     rw [Frame.finish_at]
     walk_nrm
     refine f_op rfl rfl (by k_ne) (fun w => ⟨run_eq_of (fun K hK => by go_simp; exact hK), listed_nil (by simp [go_sem, ev_min2, ev_max2, *])⟩) ?_
     walk_nrm
     refine f_ctl rfl (fun w => stepG_region_end) ?_
     refine f_ctl rfl (fun w => stepG_seq) ?_
     refine f_ctl rfl (fun w => stepG_seq) ?_
     refine f_ctl rfl (fun w => stepG_region) ?_
     simp only [List.size_toArray, List.length_cons, List.length_nil, Nat.reduceAdd, Nat.zero_add, List.range, List.range.loop]
     refine f_op rfl rfl (by k_ne) (fun w => ⟨run_eq_of (fun K hK => by go_simp; exact hK), listed_nil (by simp [go_sem, ev_min2, ev_max2, *])⟩) ?_
     walk_nrm
     refine f_op rfl rfl (by k_ne) (fun w => ⟨run_eq_of (fun K hK => by go_simp; exact hK), listed_nil (by simp [go_sem, ev_min2, ev_max2, *])⟩) ?_
     walk_nrm
     refine f_enter rfl rfl (by k_ne) rfl Try.func16 rfl rfl ?_
     walk_nrm
     refine Co.call co (R := fun v _ => v = .int .i64 (if flashOk f then wTorn f else -1)) (fun _ _ _ _ h => h) (by kernel_rfl) (fun v hx => by simp at hx; subst hx; exact hv_f) (fun T d' => (spec_WearLost f (some ⟨g, off, none⟩) d (Go.Proofs.Ytclnogfmmekooaa.tp (cutW (good Gd) w) T d') hln (hf_f.bel (Bel.tp _ T d'))).mono fun e w' ⟨h1, h2⟩ => ⟨_, h1, rfl, h2⟩) ?_
     clear co
     intro A v w hA co hb _ hv1
     subst hv1
     replace hv_f := hv_f.mono hA
     replace hf_f := hf_f.bel hb.cut
     clear hb hA
     rw [Frame.finish_at]
     walk_nrm
     refine f_op (v := .bool false) rfl rfl (by k_ne) (fun w => ⟨run_eq_of (fun K hK => by go_simp; exact hK), listed_nil (by simp [go_sem, ev_min2, ev_max2, *])⟩) ?_
     walk_nrm
     refine f_op rfl rfl (by k_ne) (fun w => ⟨run_eq_of (fun K hK => by go_simp; exact hK), listed_nil (by simp [go_sem, ev_min2, ev_max2, *])⟩) ?_
     walk_nrm
     refine f_op rfl rfl (by k_ne) (fun w => ⟨run_eq_of (fun K hK => by go_simp; exact hK), listed_nil (by simp [go_sem, ev_min2, ev_max2, *])⟩) ?_
     walk_nrm
     refine f_enter rfl rfl (by k_ne) rfl Try.func19 rfl rfl ?_
     walk_nrm
     refine Co.call co (R := fun v _ => v = .bool (flashOk f)) (fun _ _ _ _ h => h) (by kernel_rfl) (fun v hx => by simp at hx; subst hx; exact hv_f) (fun T d' => (spec_FlashOk f (some ⟨g, off, none⟩) d (Go.Proofs.Ytclnogfmmekooaa.tp (cutW (good Gd) w) T d') hln (hf_f.bel (Bel.tp _ T d'))).mono fun e w' ⟨h1, h2⟩ => ⟨_, h1, rfl, h2⟩) ?_
     clear co
     intro A v w hA co hb _ hv1
     subst hv1
     replace hv_f := hv_f.mono hA
     replace hf_f := hf_f.bel hb.cut
     clear hb hA
     rw [Frame.finish_at]
     walk_nrm
     cases hok : flashOk f with
     | false =>
       refine f_op (v := .bool true) rfl rfl (by k_ne) (fun w => ⟨run_eq_of (fun K hK => by have h9 := hok; go_simp; exact hK), listed_nil (by have h9 := hok; simp [go_sem, ev_min2, ev_max2, *])⟩) ?_
       walk_nrm
       refine f_op (v := .bool true) rfl rfl (by k_ne) (fun w => ⟨run_eq_of (fun K hK => by go_simp; exact hK), listed_nil (by simp [go_sem, ev_min2, ev_max2, *])⟩) ?_
       walk_nrm
       refine f_ctl rfl (fun w => stepG_region_end) ?_
       refine f_ctl rfl (fun w => stepG_cond (t := true) (by simp [Act.eval])) ?_
       simp only [if_true, Bool.false_eq_true, if_false]
       refine f_ctl rfl (fun w => stepG_seq) ?_
       refine f_ctl rfl (fun w => stepG_region) ?_
       simp only [List.size_toArray, List.length_cons, List.length_nil, Nat.reduceAdd, Nat.zero_add, List.range, List.range.loop]
       refine f_op rfl rfl (by k_ne) (fun w => ⟨run_eq_of (fun K hK => by go_simp; exact hK), listed_nil (by simp [go_sem, ev_min2, ev_max2, *])⟩) ?_
       walk_nrm
       refine f_op rfl rfl (by k_ne) (fun w => ⟨run_eq_of (fun K hK => by go_simp; exact hK), listed_nil (by simp [go_sem, ev_min2, ev_max2, *])⟩) ?_
       walk_nrm
       refine f_enter rfl rfl (by k_ne) rfl Try.func16 rfl rfl ?_
       walk_nrm
       refine Co.call co (R := fun v _ => v = .int .i64 (if flashOk f then wTorn f else -1)) (fun _ _ _ _ h => h) (by kernel_rfl) (fun v hx => by simp at hx; subst hx; exact hv_f) (fun T d' => (spec_WearLost f (some ⟨g, off, none⟩) d (Go.Proofs.Ytclnogfmmekooaa.tp (cutW (good Gd) w) T d') hln (hf_f.bel (Bel.tp _ T d'))).mono fun e w' ⟨h1, h2⟩ => ⟨_, h1, rfl, h2⟩) ?_
       clear co
       intro A v w hA co hb _ hv1
       subst hv1
       replace hv_f := hv_f.mono hA
       replace hf_f := hf_f.bel hb.cut
       clear hb hA
       rw [Frame.finish_at]
       walk_nrm
       refine f_op (v := .bool true) rfl rfl (by k_ne) (fun w => ⟨run_eq_of (fun K hK => by have h9 := hok; go_simp; exact hK), listed_nil (by have h9 := hok; simp [go_sem, ev_min2, ev_max2, *])⟩) ?_
       walk_nrm
       refine f_op rfl rfl (by k_ne) (fun w => ⟨run_eq_of (fun K hK => by go_simp; exact hK), listed_nil (by simp [go_sem, ev_min2, ev_max2, *])⟩) ?_
       walk_nrm
       refine f_ctl rfl (fun w => stepG_region_end) ?_
       refine f_ctl rfl (fun w => stepG_ret') ?_
       refine Fine.fin (A := fun _ => False) (T := fun _ _ => 0) (d := 0) rfl rfl rfl Try.func8 (by kernel_rfl) (v := .bool true) (fun w _ => ?_) (fun w _ e he => ?_) (fun T d => ⟨rfl, co.bel.trans (Bel.tp _ T d)⟩)
       · simp [results, Try.f8, go_sem, Frame.at]
       · rw [show (results Try.f8 _).events Try.prog w #[] = #[] by simp [results, Try.f8, go_sem, Frame.at]] at he
         simp at he
     | true =>
       obtain ⟨k, hk⟩ : ∃ k, bs1.length % 4 = k := ⟨_, rfl⟩
       have hk4 : k < 4 := by omega
       have hrem0 : (bs1.length : Int) % 4 = (k : Int) := rem_of 4 hk
       have hrem : Int.tmod (bs1.length : Int) 4 = (k : Int) := by rw [Int.tmod_eq_emod_of_nonneg (by omega), hrem0]
       obtain ⟨b, hbk⟩ := get_some (l := f) (k := k) (by rw [(flash_four hok).1]; exact hk4)
       clear hk hrem0
       refine f_op (v := .bool false) rfl rfl (by k_ne) (fun w => ⟨run_eq_of (fun K hK => by have h9 := hok; go_simp; exact hK), listed_nil (by have h9 := hok; simp [go_sem, ev_min2, ev_max2, *])⟩) ?_
       walk_nrm
       refine f_op (v := .bool false) rfl rfl (by k_ne) (fun w => ⟨run_eq_of (fun K hK => by go_simp; exact hK), listed_nil (by simp [go_sem, ev_min2, ev_max2, *])⟩) ?_
       walk_nrm
       refine f_ctl rfl (fun w => stepG_region_end) ?_
       refine f_ctl rfl (fun w => stepG_cond (t := false) (by simp [Act.eval])) ?_
       simp only [if_true, Bool.false_eq_true, if_false]
       refine f_ctl rfl (fun w => stepG_skip) ?_
       refine f_ctl rfl (fun w => stepG_seq) ?_
       refine f_ctl rfl (fun w => stepG_region) ?_
       simp only [List.size_toArray, List.length_cons, List.length_nil, Nat.reduceAdd, Nat.zero_add, List.range, List.range.loop]
       refine f_op rfl rfl (by k_ne) (fun w => ⟨run_eq_of (fun K hK => by go_simp; exact hK), listed_nil (by simp [go_sem, ev_min2, ev_max2, *])⟩) ?_
       walk_nrm
       refine f_op rfl rfl (by k_ne) (fun w => ⟨run_eq_of (fun K hK => by go_simp; exact hK), listed_nil (by simp [go_sem, ev_min2, ev_max2, *])⟩) ?_
       walk_nrm
       refine f_op (v := .int .i64 (k : Int)) rfl rfl (by k_ne) (fun w => ⟨run_eq_of (fun K hK => by have h9 := hrem; go_simp; exact hK), listed_nil (by have h9 := hrem; simp [go_sem, ev_min2, ev_max2, *])⟩) ?_
       walk_nrm
       refine f_op rfl rfl (by k_ne) (fun w => ⟨run_eq_of (fun K hK => by go_simp; exact hK), listed_nil (by simp [go_sem, ev_min2, ev_max2, *])⟩) ?_
       walk_nrm
       refine f_ctl rfl (fun w => stepG_region_end) ?_
       refine f_ctl rfl (fun w => stepG_seq) ?_
       refine f_ctl rfl (fun w => stepG_region) ?_
       simp only [List.size_toArray, List.length_cons, List.length_nil, Nat.reduceAdd, Nat.zero_add, List.range, List.range.loop]
       refine f_op rfl rfl (by k_ne) (fun w => ⟨run_eq_of (fun K hK => by go_simp; exact hK), listed_nil (by simp [go_sem, ev_min2, ev_max2, *])⟩) ?_
       walk_nrm
       refine f_ctl rfl (fun w => stepG_region_end) ?_
       refine f_ctl rfl (fun w => stepG_seq) ?_
       refine f_ctl rfl (fun w => stepG_seq) ?_
       refine f_ctl rfl (fun w => stepG_region) ?_
       simp only [List.size_toArray, List.length_cons, List.length_nil, Nat.reduceAdd, Nat.zero_add, List.range, List.range.loop]
       refine f_op rfl rfl (by k_ne) (fun w => ⟨run_eq_of (fun K hK => by go_simp; exact hK), listed_nil (by simp [go_sem, ev_min2, ev_max2, *])⟩) ?_
       walk_nrm
       refine f_ctl rfl (fun w => stepG_region_end) ?_
       refine f_ctl rfl (fun w => stepG_block) ?_
       refine f_ctl rfl (fun w => stepG_loop) ?_
       obtain ⟨pb, po, pc, hPw⟩ := co.pages hv_f hf_f hok hbk
       have hp4 := (flashOk_shape hok b (List.mem_of_getElem? hbk)).1
       have hkf : (k : Int) < (f.length : Int) := by rw [(flash_four hok).1]; omega
       suffices hrest : ∀ T : Array Value, T.size = 94 → T[5]? = some (.slice (some ⟨g, off, none⟩) f.length d) → T[6]? = some (.int .i64 (if true = true then wTorn f else -1)) → T[7]? = some (.int .i64 (k : Int)) → T[8]? = some (.int .i64 ((tornN b.pages : Int))) → Fine Try.prog (fun v w' => v = .bool true ∧ Bel W w') SB (G ((base 8).at ⟨T, []⟩ [.code ltT]) []) w by
        have hin := fun T => ltIn (d := d) (n := if true = true then wTorn f else -1) (Post := fun v w' => v = .bool true ∧ Bel W w') hPw hp4 hkf hrest 4 0 T rfl
        simp only [ltL, ltT, Try.f8] at hin
        exact hin _ rfl rfl rfl rfl rfl rfl
       · intro T hT t5 t6 t7 t8
         clear hPw hp4 hkf
         obtain ⟨v0, v1, v2, v3, v4, v5, v6, v7, v8, v9, v10, v11, v12, v13, v14, v15, v16, v17, v18, v19, v20, v21, v22, v23, v24, v25, v26, v27, v28, v29, v30, v31, v32, v33, v34, v35, v36, v37, v38, v39, v40, v41, v42, v43, v44, v45, v46, v47, v48, v49, v50, v51, v52, v53, v54, v55, v56, v57, v58, v59, v60, v61, v62, v63, v64, v65, v66, v67, v68, v69, v70, v71, v72, v73, v74, v75, v76, v77, v78, v79, v80, v81, v82, v83, v84, v85, v86, v87, v88, v89, v90, v91, v92, v93, rfl⟩ := arrt94 T hT
         simp only [List.getElem?_toArray, List.getElem?_cons_succ, List.getElem?_cons_zero, Option.some.injEq] at t5 t6 t7 t8
         subst t5 t6 t7 t8
         simp only [ltL, ltT, Try.f8]
         have hsmall := wTorn_small hok (k := f.length)
         rw [List.take_of_length_le (Nat.le_refl _)] at hsmall
         have htn := tornN_le b.pages
         have hb4 := (flashOk_shape hok b (List.mem_of_getElem? hbk)).1
         have hsub : IntKind.i64.wrap (wTorn f - (tornN b.pages : Int)) = wTorn f - (tornN b.pages : Int) := by rw [IntKind.wrap_i64]; omega
         have hadd : IntKind.i64.wrap (wTorn f - (tornN b.pages : Int) + 4) = wTorn f - (tornN b.pages : Int) + 4 := by rw [IntKind.wrap_i64]; omega
         clear hsmall htn hb4
         obtain ⟨x, y, one, ex, ey, hone⟩ : ∃ x y one, flashWipe f (k : Int) false = (x, one) ∧ flashWipe f (k : Int) true = (y, one) ∧ (one = true → (flashOk x = true ∧ wTorn x = wTorn f - (tornN b.pages : Int)) ∧ flashOk y = true ∧ wTorn y = wTorn f - (tornN b.pages : Int) + 4) := by
          by_cases h2 : b.worn = 200
          · exact ⟨f, f, false, by rw [flashWipe_at hok hbk, if_pos h2], by rw [flashWipe_at hok hbk, if_pos h2], fun e => by cases e⟩
          · refine ⟨_, _, true, by rw [flashWipe_at hok hbk, if_neg h2], by rw [flashWipe_at hok hbk, if_neg h2], fun _ => ⟨⟨wiped_keeps hok hbk h2 _, ?_⟩, wiped_keeps hok hbk h2 _, ?_⟩⟩
            · rw [wiped_torn hbk]; simp
            · rw [wiped_torn hbk]; simp
         clear hbk
         refine f_ctl rfl (fun w => stepG_seq) ?_
         refine f_ctl rfl (fun w => stepG_region) ?_
         simp only [List.size_toArray, List.length_cons, List.length_nil, Nat.reduceAdd, Nat.zero_add, List.range, List.range.loop]
         refine f_op rfl rfl (by k_ne) (fun w => ⟨run_eq_of (fun K hK => by go_simp; exact hK), listed_nil (by simp [go_sem, ev_min2, ev_max2, *])⟩) ?_
         walk_nrm
         refine f_op rfl rfl (by k_ne) (fun w => ⟨run_eq_of (fun K hK => by go_simp; exact hK), listed_nil (by simp [go_sem, ev_min2, ev_max2, *])⟩) ?_
         walk_nrm
         refine f_enter rfl rfl (by k_ne) rfl Try.func22 rfl rfl ?_
         walk_nrm
         refine Co.call co (R := fun v w' => ∃ ad c, v = .tuple #[.slice ad x.length c, .bool one] ∧ Fl w' ad x) (fun v w T d ⟨ad, c, h1, h2⟩ => ⟨ad, c, h1, h2.bel (Bel.pt w T d)⟩) (by kernel_rfl) (fun v hx => by simp only [List.mem_toArray, List.mem_cons, List.not_mem_nil, or_false] at hx; rcases hx with rfl | rfl | rfl; exact hv_f; exact .int _ _; exact .bool _) (fun T d' => (show Calls Try.prog _ _ _ (FlPost (x, one) _) from ex ▸ impl_FlashWipe f (k : Int) false (some ⟨g, off, none⟩) d (Go.Proofs.Ytclnogfmmekooaa.tp (cutW (good Gd) w) T d') (hf_f.bel (Bel.tp _ T d'))).mono fun e w' ⟨ad, c, h1, h2, h3, h4⟩ => ⟨_, h1, ⟨ad, c, rfl, h3.fl⟩, h4⟩) ?_
         clear co
         rintro A v w hA co hb hv_x ⟨ad_x, c_x, rfl, hf_x⟩
         replace hv_x := hv_x.pair
         replace hv_f := hv_f.mono hA
         replace hf_f := hf_f.bel hb.cut
         clear hb hA
         rw [Frame.finish_at]
         walk_nrm
         refine f_op rfl rfl (by k_ne) (fun w => ⟨run_eq_of (fun K hK => by go_simp; exact hK), listed_nil (by simp [go_sem, ev_min2, ev_max2, *])⟩) ?_
         walk_nrm
         refine f_op rfl rfl (by k_ne) (fun w => ⟨run_eq_of (fun K hK => by go_simp; exact hK), listed_nil (by simp [go_sem, ev_min2, ev_max2, *])⟩) ?_
         walk_nrm
         refine f_op rfl rfl (by k_ne) (fun w => ⟨run_eq_of (fun K hK => by go_simp; exact hK), listed_nil (by simp [go_sem, ev_min2, ev_max2, *])⟩) ?_
         walk_nrm
         refine f_op rfl rfl (by k_ne) (fun w => ⟨run_eq_of (fun K hK => by go_simp; exact hK), listed_nil (by simp [go_sem, ev_min2, ev_max2, *])⟩) ?_
         walk_nrm
         refine f_op rfl rfl (by k_ne) (fun w => ⟨run_eq_of (fun K hK => by go_simp; exact hK), listed_nil (by simp [go_sem, ev_min2, ev_max2, *])⟩) ?_
         walk_nrm
         refine f_ctl rfl (fun w => stepG_region_end) ?_
         refine f_ctl rfl (fun w => stepG_seq) ?_
         refine f_ctl rfl (fun w => stepG_region) ?_
         simp only [List.size_toArray, List.length_cons, List.length_nil, Nat.reduceAdd, Nat.zero_add, List.range, List.range.loop]
         refine f_op rfl rfl (by k_ne) (fun w => ⟨run_eq_of (fun K hK => by go_simp; exact hK), listed_nil (by simp [go_sem, ev_min2, ev_max2, *])⟩) ?_
         walk_nrm
         refine f_op rfl rfl (by k_ne) (fun w => ⟨run_eq_of (fun K hK => by go_simp; exact hK), listed_nil (by simp [go_sem, ev_min2, ev_max2, *])⟩) ?_
         walk_nrm
         refine f_enter rfl rfl (by k_ne) rfl Try.func22 rfl rfl ?_
         walk_nrm
         refine Co.call co (R := fun v w' => ∃ ad c, v = .tuple #[.slice ad y.length c, .bool one] ∧ Fl w' ad y) (fun v w T d ⟨ad, c, h1, h2⟩ => ⟨ad, c, h1, h2.bel (Bel.pt w T d)⟩) (by kernel_rfl) (fun v hx => by simp only [List.mem_toArray, List.mem_cons, List.not_mem_nil, or_false] at hx; rcases hx with rfl | rfl | rfl; exact hv_f; exact .int _ _; exact .bool _) (fun T d' => (show Calls Try.prog _ _ _ (FlPost (y, one) _) from ey ▸ impl_FlashWipe f (k : Int) true (some ⟨g, off, none⟩) d (Go.Proofs.Ytclnogfmmekooaa.tp (cutW (good Gd) w) T d') (hf_f.bel (Bel.tp _ T d'))).mono fun e w' ⟨ad, c, h1, h2, h3, h4⟩ => ⟨_, h1, ⟨ad, c, rfl, h3.fl⟩, h4⟩) ?_
         clear co
         rintro A v w hA co hb hv_y ⟨ad_y, c_y, rfl, hf_y⟩
         replace hv_y := hv_y.pair
         replace hv_f := hv_f.mono hA
         replace hf_f := hf_f.bel hb.cut
         replace hv_x := hv_x.mono hA
         replace hf_x := hf_x.bel hb.cut
         clear hb hA
         rw [Frame.finish_at]
         walk_nrm
         refine f_op rfl rfl (by k_ne) (fun w => ⟨run_eq_of (fun K hK => by go_simp; exact hK), listed_nil (by simp [go_sem, ev_min2, ev_max2, *])⟩) ?_
         walk_nrm
         refine f_op rfl rfl (by k_ne) (fun w => ⟨run_eq_of (fun K hK => by go_simp; exact hK), listed_nil (by simp [go_sem, ev_min2, ev_max2, *])⟩) ?_
         walk_nrm
         refine f_op rfl rfl (by k_ne) (fun w => ⟨run_eq_of (fun K hK => by go_simp; exact hK), listed_nil (by simp [go_sem, ev_min2, ev_max2, *])⟩) ?_
         walk_nrm
         refine f_op rfl rfl (by k_ne) (fun w => ⟨run_eq_of (fun K hK => by go_simp; exact hK), listed_nil (by simp [go_sem, ev_min2, ev_max2, *])⟩) ?_
         walk_nrm
         refine f_op rfl rfl (by k_ne) (fun w => ⟨run_eq_of (fun K hK => by go_simp; exact hK), listed_nil (by simp [go_sem, ev_min2, ev_max2, *])⟩) ?_
         walk_nrm
         refine f_ctl rfl (fun w => stepG_region_end) ?_
         refine f_ctl rfl (fun w => stepG_seq) ?_
         refine f_ctl rfl (fun w => stepG_region) ?_
         simp only [List.size_toArray, List.length_cons, List.length_nil, Nat.reduceAdd, Nat.zero_add, List.range, List.range.loop]
         refine f_op rfl rfl (by k_ne) (fun w => ⟨run_eq_of (fun K hK => by go_simp; exact hK), listed_nil (by simp [go_sem, ev_min2, ev_max2, *])⟩) ?_
         walk_nrm
         refine f_op rfl rfl (by k_ne) (fun w => ⟨run_eq_of (fun K hK => by go_simp; exact hK), listed_nil (by simp [go_sem, ev_min2, ev_max2, *])⟩) ?_
         walk_nrm
         cases one with
         | false =>
           refine f_op (v := .bool true) rfl rfl (by k_ne) (fun w => ⟨run_eq_of (fun K hK => by go_simp; exact hK), by first | rfl | kernel_rfl⟩) ?_
           walk_nrm
           refine f_op (v := .bool true) rfl rfl (by k_ne) (fun w => ⟨run_eq_of (fun K hK => by go_simp; exact hK), listed_nil (by simp [go_sem, ev_min2, ev_max2, *])⟩) ?_
           walk_nrm
           refine f_op rfl rfl (by k_ne) (fun w => ⟨run_eq_of (fun K hK => by go_simp; exact hK), listed_nil (by simp [go_sem, ev_min2, ev_max2, *])⟩) ?_
           walk_nrm
           refine f_op (v := .bool true) rfl rfl (by k_ne) (fun w => ⟨run_eq_of (fun K hK => by go_simp; exact hK), listed_nil (by simp [go_sem, ev_min2, ev_max2, *])⟩) ?_
           walk_nrm
           refine f_op (v := .bool true) rfl rfl (by k_ne) (fun w => ⟨run_eq_of (fun K hK => by go_simp; exact hK), listed_nil (by simp [go_sem, ev_min2, ev_max2, *])⟩) ?_
           walk_nrm
           refine f_skip rfl rfl ?_
           walk_nrm
           refine f_skip rfl rfl ?_
           walk_nrm
           refine f_skip rfl rfl ?_
           walk_nrm
           refine f_skip rfl rfl ?_
           walk_nrm
           refine f_skip rfl rfl ?_
           walk_nrm
           refine f_skip rfl rfl ?_
           walk_nrm
           refine f_skip rfl rfl ?_
           walk_nrm
           refine f_skip rfl rfl ?_
           walk_nrm
           refine f_skip rfl rfl ?_
           walk_nrm
           refine f_skip rfl rfl ?_
           walk_nrm
           refine f_skip rfl rfl ?_
           walk_nrm
           refine f_skip rfl rfl ?_
           walk_nrm
           refine f_skip rfl rfl ?_
           walk_nrm
           refine f_skip rfl rfl ?_
           walk_nrm
           refine f_skip rfl rfl ?_
           walk_nrm
           refine f_op (v := .bool true) rfl rfl (by k_ne) (fun w => ⟨run_eq_of (fun K hK => by go_simp; exact hK), listed_nil (by simp [go_sem, ev_min2, ev_max2, *])⟩) ?_
           walk_nrm
           refine f_op (v := .bool true) rfl rfl (by k_ne) (fun w => ⟨run_eq_of (fun K hK => by go_simp; exact hK), listed_nil (by simp [go_sem, ev_min2, ev_max2, *])⟩) ?_
           walk_nrm
           refine f_op rfl rfl (by k_ne) (fun w => ⟨run_eq_of (fun K hK => by go_simp; exact hK), listed_nil (by simp [go_sem, ev_min2, ev_max2, *])⟩) ?_
           walk_nrm
           refine f_ctl rfl (fun w => stepG_region_end) ?_
           refine f_ctl rfl (fun w => stepG_ret') ?_
           refine Fine.fin (A := fun _ => False) (T := fun _ _ => 0) (d := 0) rfl rfl rfl Try.func8 (by kernel_rfl) (v := .bool true) (fun w _ => ?_) (fun w _ e he => ?_) (fun T d => ⟨rfl, co.bel.trans (Bel.tp _ T d)⟩)
           · simp [results, Try.f8, go_sem, Frame.at]
           · rw [show (results Try.f8 _).events Try.prog w #[] = #[] by simp [results, Try.f8, go_sem, Frame.at]] at he
             simp at he
         | true =>
           obtain ⟨⟨hx1, hx2⟩, hy1, hy2⟩ := hone rfl
           refine f_op (v := .bool true) rfl rfl (by k_ne) (fun w => ⟨run_eq_of (fun K hK => by go_simp; exact hK), by first | rfl | kernel_rfl⟩) ?_
           walk_nrm
           refine f_op (v := .bool true) rfl rfl (by k_ne) (fun w => ⟨run_eq_of (fun K hK => by go_simp; exact hK), listed_nil (by simp [go_sem, ev_min2, ev_max2, *])⟩) ?_
           walk_nrm
           refine f_op rfl rfl (by k_ne) (fun w => ⟨run_eq_of (fun K hK => by go_simp; exact hK), listed_nil (by simp [go_sem, ev_min2, ev_max2, *])⟩) ?_
           walk_nrm
           refine f_op (v := .bool false) rfl rfl (by k_ne) (fun w => ⟨run_eq_of (fun K hK => by go_simp; exact hK), listed_nil (by simp [go_sem, ev_min2, ev_max2, *])⟩) ?_
           walk_nrm
           refine f_op (v := .bool false) rfl rfl (by k_ne) (fun w => ⟨run_eq_of (fun K hK => by go_simp; exact hK), listed_nil (by simp [go_sem, ev_min2, ev_max2, *])⟩) ?_
           walk_nrm
           refine f_op rfl rfl (by k_ne) (fun w => ⟨run_eq_of (fun K hK => by go_simp; exact hK), listed_nil (by simp [go_sem, ev_min2, ev_max2, *])⟩) ?_
           walk_nrm
           refine f_enter rfl rfl (by k_ne) rfl Try.func17 rfl rfl ?_
           walk_nrm
           refine Co.wearLost co hv_x hf_x ?_
           clear co
           intro w SB A hA co hb
           replace hv_x := hv_x.mono hA
           replace hf_x := hf_x.bel hb.cut
           replace hv_y := hv_y.mono hA
           replace hf_y := hf_y.bel hb.cut
           clear hb hA
           rw [Frame.finish_at]
           walk_nrm
           refine f_op rfl rfl (by k_ne) (fun w => ⟨run_eq_of (fun K hK => by go_simp; exact hK), listed_nil (by simp [go_sem, ev_min2, ev_max2, *])⟩) ?_
           walk_nrm
           refine f_op rfl rfl (by k_ne) (fun w => ⟨run_eq_of (fun K hK => by go_simp; exact hK), listed_nil (by simp [go_sem, ev_min2, ev_max2, *])⟩) ?_
           walk_nrm
           refine f_op (v := .int .i64 (wTorn f - (tornN b.pages : Int))) rfl rfl (by k_ne) (fun w => ⟨run_eq_of (fun K hK => by have h9 := hsub; go_simp; exact hK), listed_nil (by have h9 := hsub; simp [go_sem, ev_min2, ev_max2, *])⟩) ?_
           walk_nrm
           refine f_op (v := .bool true) rfl rfl (by k_ne) (fun w => ⟨run_eq_of (fun K hK => by have h9 := hx1; have h8 := hx2; go_simp; exact hK), listed_nil (by have h9 := hx1; have h8 := hx2; simp [go_sem, ev_min2, ev_max2, *])⟩) ?_
           walk_nrm
           refine f_op (v := .bool true) rfl rfl (by k_ne) (fun w => ⟨run_eq_of (fun K hK => by go_simp; exact hK), listed_nil (by simp [go_sem, ev_min2, ev_max2, *])⟩) ?_
           walk_nrm
           refine f_op rfl rfl (by k_ne) (fun w => ⟨run_eq_of (fun K hK => by go_simp; exact hK), listed_nil (by simp [go_sem, ev_min2, ev_max2, *])⟩) ?_
           walk_nrm
           refine f_enter rfl rfl (by k_ne) rfl Try.func17 rfl rfl ?_
           walk_nrm
           refine Co.wearLost co hv_y hf_y ?_
           clear co
           intro w SB A hA co hb
           replace hv_x := hv_x.mono hA
           replace hf_x := hf_x.bel hb.cut
           replace hv_y := hv_y.mono hA
           replace hf_y := hf_y.bel hb.cut
           clear hb hA
           rw [Frame.finish_at]
           walk_nrm
           refine f_op rfl rfl (by k_ne) (fun w => ⟨run_eq_of (fun K hK => by go_simp; exact hK), listed_nil (by simp [go_sem, ev_min2, ev_max2, *])⟩) ?_
           walk_nrm
           refine f_op rfl rfl (by k_ne) (fun w => ⟨run_eq_of (fun K hK => by go_simp; exact hK), listed_nil (by simp [go_sem, ev_min2, ev_max2, *])⟩) ?_
           walk_nrm
           refine f_op (v := .int .i64 (wTorn f - (tornN b.pages : Int))) rfl rfl (by k_ne) (fun w => ⟨run_eq_of (fun K hK => by have h9 := hsub; go_simp; exact hK), listed_nil (by have h9 := hsub; simp [go_sem, ev_min2, ev_max2, *])⟩) ?_
           walk_nrm
           refine f_op (v := .int .i64 (wTorn f - (tornN b.pages : Int) + 4)) rfl rfl (by k_ne) (fun w => ⟨run_eq_of (fun K hK => by have h9 := hadd; go_simp; exact hK), listed_nil (by have h9 := hadd; simp [go_sem, ev_min2, ev_max2, *])⟩) ?_
           walk_nrm
           refine f_op (v := .bool true) rfl rfl (by k_ne) (fun w => ⟨run_eq_of (fun K hK => by have h9 := hy1; have h8 := hy2; go_simp; exact hK), listed_nil (by have h9 := hy1; have h8 := hy2; simp [go_sem, ev_min2, ev_max2, *])⟩) ?_
           walk_nrm
           refine f_op (v := .bool true) rfl rfl (by k_ne) (fun w => ⟨run_eq_of (fun K hK => by go_simp; exact hK), listed_nil (by simp [go_sem, ev_min2, ev_max2, *])⟩) ?_
           walk_nrm
           refine f_op (v := .bool true) rfl rfl (by k_ne) (fun w => ⟨run_eq_of (fun K hK => by go_simp; exact hK), listed_nil (by simp [go_sem, ev_min2, ev_max2, *])⟩) ?_
           walk_nrm
           refine f_op (v := .bool true) rfl rfl (by k_ne) (fun w => ⟨run_eq_of (fun K hK => by go_simp; exact hK), listed_nil (by simp [go_sem, ev_min2, ev_max2, *])⟩) ?_
           walk_nrm
           refine f_op rfl rfl (by k_ne) (fun w => ⟨run_eq_of (fun K hK => by go_simp; exact hK), listed_nil (by simp [go_sem, ev_min2, ev_max2, *])⟩) ?_
           walk_nrm
           refine f_ctl rfl (fun w => stepG_region_end) ?_
           refine f_ctl rfl (fun w => stepG_ret') ?_
           refine Fine.fin (A := fun _ => False) (T := fun _ _ => 0) (d := 0) rfl rfl rfl Try.func8 (by kernel_rfl) (v := .bool true) (fun w _ => ?_) (fun w _ e he => ?_) (fun T d => ⟨rfl, co.bel.trans (Bel.tp _ T d)⟩)
           · simp [results, Try.f8, go_sem, Frame.at]
           · rw [show (results Try.f8 _).events Try.prog w #[] = #[] by simp [results, Try.f8, go_sem, Frame.at]] at he
             simp at he
end Go.Proofs.Ytclnogfmmekooaa
