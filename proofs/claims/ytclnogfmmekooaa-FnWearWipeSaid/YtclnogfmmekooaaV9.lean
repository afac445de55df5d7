/- The law FnWearWipe beside leavers. (Printed by genv9.py.) -/
import Derived.Test.YtclnogfmmekooaaV8
import Derived.Test.YtclnogfmmekooaaZ9
namespace Go.Proofs.Ytclnogfmmekooaa
set_option linter.unusedVariables false
set_option linter.unusedSimpArgs false
open Go.Conc Go.ConcN Go.ConcR.Gen Go.RowKit
set_option maxRecDepth 100000
set_option maxHeartbeats 4000000
theorem law_FnWearWipe {W : World} (A0 : Option Addr) (bs : List Nat) (c : Nat) (hc : Code W A0 bs c) (hl : Lain W A0) (A1 : Option Addr) (bs1 : List Nat) (c1 : Nat) (_ : Code W A1 bs1 c1) (_ : Lain W A1) :
 Fine Try.prog (fun v w' => v = .bool true ∧ Bel W w') (fun _ => False) (G (Frame.enter Try.prog 9 #[.slice A0 bs.length c, .slice A1 bs1.length c1] .normal) []) W := by
 obtain ⟨Gd, A, co, hv, hC⟩ := start_co hc hl
 rw [enter_at _ Try.func9 rfl]
 walk_nrmf Try.f9
 refine f_ctl rfl (fun w => stepG_seq) ?_
 refine f_ctl rfl (fun w => stepG_region) ?_
 simp only [List.size_toArray, List.length_cons, List.length_nil, Nat.reduceAdd, Nat.zero_add, List.range, List.range.loop]
 refine f_op rfl rfl (by k_ne) (fun w => ⟨run_eq_of (fun K hK => by go_simp; exact hK), listed_nil (by simp [go_sem, ev_min2, ev_max2, *])⟩) ?_
 walk_nrm
 refine f_ctl rfl (fun w => stepG_region_end) ?_
 refine f_ctl rfl (fun w => stepG_seq) ?_
 refine f_ctl rfl (fun w => stepG_seq) ?_
 refine f_ctl rfl (fun w => stepG_region) ?_
 simp only [List.size_toArray, List.length_cons, List.length_nil, Nat.reduceAdd, Nat.zero_add, List.range, List.range.loop]
 refine f_op rfl rfl (by k_ne) (fun w => ⟨run_eq_of (fun K hK => by go_simp; exact hK), listed_nil (by simp [go_sem, ev_min2, ev_max2, *])⟩) ?_
 walk_nrm
 refine f_op rfl rfl (by k_ne) (fun w => ⟨run_eq_of (fun K hK => by go_simp; exact hK), listed_nil (by simp [go_sem, ev_min2, ev_max2, *])⟩) ?_
 walk_nrm
 by_cases hlen : (1048576 : Int) < bs.length
 · clear co hv hC
   refine f_op (v := .bool true) rfl rfl (by k_ne) (fun w => ⟨run_eq_of (fun K hK => by have h9 := hlen; go_simp; exact hK), listed_nil (by have h9 := hlen; simp [go_sem, ev_min2, ev_max2, *])⟩) ?_
   walk_nrm
   refine f_op rfl rfl (by k_ne) (fun w => ⟨run_eq_of (fun K hK => by go_simp; exact hK), listed_nil (by simp [go_sem, ev_min2, ev_max2, *])⟩) ?_
   walk_nrm
   refine f_skip rfl rfl ?_
   walk_nrm
   refine f_skip rfl rfl ?_
   walk_nrm
   refine f_skip rfl rfl ?_
   walk_nrm
   refine f_op (v := .bool true) rfl rfl (by k_ne) (fun w => ⟨run_eq_of (fun K hK => by go_simp; exact hK), listed_nil (by simp [go_sem, ev_min2, ev_max2, *])⟩) ?_
   walk_nrm
   refine f_ctl rfl (fun w => stepG_region_end) ?_
   refine f_ctl rfl (fun w => stepG_cond (t := true) (by simp [Act.eval])) ?_
   simp only [if_true, Bool.false_eq_true, if_false]
   refine f_ctl rfl (fun w => stepG_seq) ?_
   refine f_ctl rfl (fun w => stepG_region) ?_
   simp only [List.size_toArray, List.length_cons, List.length_nil, Nat.reduceAdd, Nat.zero_add, List.range, List.range.loop]
   refine f_op rfl rfl (by k_ne) (fun w => ⟨run_eq_of (fun K hK => by go_simp; exact hK), listed_nil (by simp [go_sem, ev_min2, ev_max2, *])⟩) ?_
   walk_nrm
   refine f_ctl rfl (fun w => stepG_region_end) ?_
   refine f_ctl rfl (fun w => stepG_ret') ?_
   refine Fine.fin (A := fun _ => False) (T := fun _ _ => 0) (d := 0) rfl rfl rfl Try.func9 (by kernel_rfl) (v := .bool true) (fun w _ => ?_) (fun w _ e he => ?_) (fun T d => ⟨rfl, Bel.tp _ T d⟩)
   · simp [results, Try.f9, go_sem, Frame.at]
   · rw [show (results Try.f9 _).events Try.prog w #[] = #[] by simp [results, Try.f9, go_sem, Frame.at]] at he
     simp at he
 · have hlen2 : ¬ (1048576 : Int) < bs.length := hlen
   refine f_op (v := .bool false) rfl rfl (by k_ne) (fun w => ⟨run_eq_of (fun K hK => by have h9 := hlen; go_simp; exact hK), listed_nil (by have h9 := hlen; simp [go_sem, ev_min2, ev_max2, *])⟩) ?_
   walk_nrm
   refine f_op rfl rfl (by k_ne) (fun w => ⟨run_eq_of (fun K hK => by go_simp; exact hK), listed_nil (by simp [go_sem, ev_min2, ev_max2, *])⟩) ?_
   walk_nrm
   refine f_op rfl rfl (by k_ne) (fun w => ⟨run_eq_of (fun K hK => by go_simp; exact hK), listed_nil (by simp [go_sem, ev_min2, ev_max2, *])⟩) ?_
   walk_nrm
   refine f_op rfl rfl (by k_ne) (fun w => ⟨run_eq_of (fun K hK => by go_simp; exact hK), listed_nil (by simp [go_sem, ev_min2, ev_max2, *])⟩) ?_
   walk_nrm
   by_cases hm : (1048576 : Int) < bs1.length
   · clear co hv hC
     refine f_op (v := .bool true) rfl rfl (by k_ne) (fun w => ⟨run_eq_of (fun K hK => by have h9 := hm; go_simp; exact hK), listed_nil (by have h9 := hm; simp [go_sem, ev_min2, ev_max2, *])⟩) ?_
     walk_nrm
     refine f_op (v := .bool true) rfl rfl (by k_ne) (fun w => ⟨run_eq_of (fun K hK => by go_simp; exact hK), listed_nil (by simp [go_sem, ev_min2, ev_max2, *])⟩) ?_
     walk_nrm
     refine f_ctl rfl (fun w => stepG_region_end) ?_
     refine f_ctl rfl (fun w => stepG_cond (t := true) (by simp [Act.eval])) ?_
     simp only [if_true, Bool.false_eq_true, if_false]
     refine f_ctl rfl (fun w => stepG_seq) ?_
     refine f_ctl rfl (fun w => stepG_region) ?_
     simp only [List.size_toArray, List.length_cons, List.length_nil, Nat.reduceAdd, Nat.zero_add, List.range, List.range.loop]
     refine f_op rfl rfl (by k_ne) (fun w => ⟨run_eq_of (fun K hK => by go_simp; exact hK), listed_nil (by simp [go_sem, ev_min2, ev_max2, *])⟩) ?_
     walk_nrm
     refine f_ctl rfl (fun w => stepG_region_end) ?_
     refine f_ctl rfl (fun w => stepG_ret') ?_
     refine Fine.fin (A := fun _ => False) (T := fun _ _ => 0) (d := 0) rfl rfl rfl Try.func9 (by kernel_rfl) (v := .bool true) (fun w _ => ?_) (fun w _ e he => ?_) (fun T d => ⟨rfl, Bel.tp _ T d⟩)
     · simp [results, Try.f9, go_sem, Frame.at]
     · rw [show (results Try.f9 _).events Try.prog w #[] = #[] by simp [results, Try.f9, go_sem, Frame.at]] at he
       simp at he
   · have hm2 : ¬ (1048576 : Int) < bs1.length := hm
     refine f_op (v := .bool false) rfl rfl (by k_ne) (fun w => ⟨run_eq_of (fun K hK => by have h9 := hm; go_simp; exact hK), listed_nil (by have h9 := hm; simp [go_sem, ev_min2, ev_max2, *])⟩) ?_
     walk_nrm
     refine f_op (v := .bool false) rfl rfl (by k_ne) (fun w => ⟨run_eq_of (fun K hK => by go_simp; exact hK), listed_nil (by simp [go_sem, ev_min2, ev_max2, *])⟩) ?_
     walk_nrm
     refine f_ctl rfl (fun w => stepG_region_end) ?_
     refine f_ctl rfl (fun w => stepG_cond (t := false) (by simp [Act.eval])) ?_
     simp only [if_true, Bool.false_eq_true, if_false]
     refine f_ctl rfl (fun w => stepG_skip) ?_
     refine f_ctl rfl (fun w => stepG_seq) ?_
     refine f_ctl rfl (fun w => stepG_region) ?_
     simp only [List.size_toArray, List.length_cons, List.length_nil, Nat.reduceAdd, Nat.zero_add, List.range, List.range.loop]
     refine f_op rfl rfl (by k_ne) (fun w => ⟨run_eq_of (fun K hK => by go_simp; exact hK), listed_nil (by simp [go_sem, ev_min2, ev_max2, *])⟩) ?_
     walk_nrm
     refine f_enter rfl rfl (by k_ne) rfl Try.func24 rfl rfl ?_
     walk_nrm
     refine Co.call co (R := fun v w' => ∃ (g o d : Nat) (f : List Bk), v = .slice (some ⟨g, o, none⟩) f.length d ∧ flSmall f ∧ Fl w' (some ⟨g, o, none⟩) f) (fun v w T d ⟨g, o, c, f, h1, h2, h3⟩ => ⟨g, o, c, f, h1, h2, h3.bel (Bel.pt w T d)⟩) (by kernel_rfl) (fun v hx => by simp at hx; subst hx; exact hv) (fun T d => (spec_DrawWearAll A0 bs c (Go.Proofs.Ytclnogfmmekooaa.tp (cutW (good Gd) W) T d) (hC.tp T d)).mono fun e w' ⟨g, o, d, f, h1, h2, h3, h4⟩ => ⟨_, h1, ⟨g, o, d, f, rfl, h2, h3.fl⟩, h4⟩) ?_
     clear co hv
     rintro A v w hA co _ hv_f ⟨g, off, d, f, rfl, hsm, hf_f⟩
     clear hA
     rw [Frame.finish_at]
     walk_nrm
     have hln := Lib.hid (small_len4 hsm)
     replace hln := hln.out
     refine f_op rfl rfl (by k_ne) (fun w => ⟨run_eq_of (fun K hK => by go_simp; exact hK), listed_nil (by simp [go_sem, ev_min2, ev_max2, *])⟩) ?_
     walk_nrm
     refine f_ctl rfl (fun w => stepG_region_end) ?_
     refine f_ctl rfl (fun w => stepG_seq) ?_
     refine f_ctl rfl (fun w => stepG_region) ?_
     simp only [List.size_toArray, List.length_cons, List.length_nil, Nat.reduceAdd, Nat.zero_add, List.range, List.range.loop]
     refine f_op rfl rfl (by k_ne) (fun w => ⟨run_eq_of (fun K hK => by go_simp; exact hK), listed_nil (by simp [go_sem, ev_min2, ev_max2, *])⟩) ?_
     walk_nrm
     refine f_enter rfl rfl (by k_ne) rfl Try.func20 rfl rfl ?_
     walk_nrm
     refine Co.wearAll co hv_f hf_f ?_
     clear co
     intro w SB A hA co hb
     replace hv_f := hv_f.mono hA
     replace hf_f := hf_f.bel hb.cut
     clear hb hA
     rw [Frame.finish_at]
     walk_nrm
     refine f_op rfl rfl (by k_ne) (fun w => ⟨run_eq_of (fun K hK => by go_simp; exact hK), listed_nil (by simp [go_sem, ev_min2, ev_max2, *])⟩) ?_
     walk_nrm
     refine f_ctl rfl (fun w => stepG_region_end) ?_
     refine f_ctl rfl (fun w => stepG_seq) ?_
     refine f_ctl rfl (fun w => stepG_seq) ?_
     refine f_ctl rfl (fun w => stepG_region) ?_
     simp only [List.size_toArray, List.length_cons, List.length_nil, Nat.reduceAdd, Nat.zero_add, List.range, List.range.loop]
     refine f_op rfl rfl (by k_ne) (fun w => ⟨run_eq_of (fun K hK => by go_simp; exact hK), listed_nil (by simp [go_sem, ev_min2, ev_max2, *])⟩) ?_
     walk_nrm
     refine f_op rfl rfl (by k_ne) (fun w => ⟨run_eq_of (fun K hK => by go_simp; exact hK), listed_nil (by simp [go_sem, ev_min2, ev_max2, *])⟩) ?_
     walk_nrm
     refine f_enter rfl rfl (by k_ne) rfl Try.func25 rfl rfl ?_
     walk_nrm
     refine Co.call co (R := fun v _ => v = .int .i64 (if flashOk f then wSum f else -1)) (fun _ _ _ _ h => h) (by kernel_rfl) (fun v hx => by simp at hx; subst hx; exact hv_f) (fun T d' => (spec_WearAll f (some ⟨g, off, none⟩) d (Go.Proofs.Ytclnogfmmekooaa.tp (cutW (good Gd) w) T d') hln (hf_f.bel (Bel.tp _ T d'))).mono fun e w' ⟨h1, h2⟩ => ⟨_, h1, rfl, h2⟩) ?_
     clear co
     intro A v w hA co hb _ hv1
     subst hv1
     replace hv_f := hv_f.mono hA
     replace hf_f := hf_f.bel hb.cut
     clear hb hA
     rw [Frame.finish_at]
     walk_nrm
     refine f_op (v := .bool false) rfl rfl (by k_ne) (fun w => ⟨run_eq_of (fun K hK => by go_simp; exact hK), listed_nil (by simp [go_sem, ev_min2, ev_max2, *])⟩) ?_
     walk_nrm
     refine f_op rfl rfl (by k_ne) (fun w => ⟨run_eq_of (fun K hK => by go_simp; exact hK), listed_nil (by simp [go_sem, ev_min2, ev_max2, *])⟩) ?_
     walk_nrm
     refine f_op rfl rfl (by k_ne) (fun w => ⟨run_eq_of (fun K hK => by go_simp; exact hK), listed_nil (by simp [go_sem, ev_min2, ev_max2, *])⟩) ?_
     walk_nrm
     refine f_enter rfl rfl (by k_ne) rfl Try.func19 rfl rfl ?_
     walk_nrm
     refine Co.call co (R := fun v _ => v = .bool (flashOk f)) (fun _ _ _ _ h => h) (by kernel_rfl) (fun v hx => by simp at hx; subst hx; exact hv_f) (fun T d' => (spec_FlashOk f (some ⟨g, off, none⟩) d (Go.Proofs.Ytclnogfmmekooaa.tp (cutW (good Gd) w) T d') hln (hf_f.bel (Bel.tp _ T d'))).mono fun e w' ⟨h1, h2⟩ => ⟨_, h1, rfl, h2⟩) ?_
     clear co
     intro A v w hA co hb _ hv1
     subst hv1
     replace hv_f := hv_f.mono hA
     replace hf_f := hf_f.bel hb.cut
     clear hb hA
     rw [Frame.finish_at]
     walk_nrm
     cases hok : flashOk f with
     | false =>
       refine f_op (v := .bool true) rfl rfl (by k_ne) (fun w => ⟨run_eq_of (fun K hK => by have h9 := hok; go_simp; exact hK), listed_nil (by have h9 := hok; simp [go_sem, ev_min2, ev_max2, *])⟩) ?_
       walk_nrm
       refine f_op (v := .bool true) rfl rfl (by k_ne) (fun w => ⟨run_eq_of (fun K hK => by go_simp; exact hK), listed_nil (by simp [go_sem, ev_min2, ev_max2, *])⟩) ?_
       walk_nrm
       refine f_ctl rfl (fun w => stepG_region_end) ?_
       refine f_ctl rfl (fun w => stepG_cond (t := true) (by simp [Act.eval])) ?_
       simp only [if_true, Bool.false_eq_true, if_false]
       refine f_ctl rfl (fun w => stepG_seq) ?_
       refine f_ctl rfl (fun w => stepG_region) ?_
       simp only [List.size_toArray, List.length_cons, List.length_nil, Nat.reduceAdd, Nat.zero_add, List.range, List.range.loop]
       refine f_op rfl rfl (by k_ne) (fun w => ⟨run_eq_of (fun K hK => by go_simp; exact hK), listed_nil (by simp [go_sem, ev_min2, ev_max2, *])⟩) ?_
       walk_nrm
       refine f_op rfl rfl (by k_ne) (fun w => ⟨run_eq_of (fun K hK => by go_simp; exact hK), listed_nil (by simp [go_sem, ev_min2, ev_max2, *])⟩) ?_
       walk_nrm
       refine f_enter rfl rfl (by k_ne) rfl Try.func25 rfl rfl ?_
       walk_nrm
       refine Co.call co (R := fun v _ => v = .int .i64 (if flashOk f then wSum f else -1)) (fun _ _ _ _ h => h) (by kernel_rfl) (fun v hx => by simp at hx; subst hx; exact hv_f) (fun T d' => (spec_WearAll f (some ⟨g, off, none⟩) d (Go.Proofs.Ytclnogfmmekooaa.tp (cutW (good Gd) w) T d') hln (hf_f.bel (Bel.tp _ T d'))).mono fun e w' ⟨h1, h2⟩ => ⟨_, h1, rfl, h2⟩) ?_
       clear co
       intro A v w hA co hb _ hv1
       subst hv1
       replace hv_f := hv_f.mono hA
       replace hf_f := hf_f.bel hb.cut
       clear hb hA
       rw [Frame.finish_at]
       walk_nrm
       refine f_op (v := .bool true) rfl rfl (by k_ne) (fun w => ⟨run_eq_of (fun K hK => by have h9 := hok; go_simp; exact hK), listed_nil (by have h9 := hok; simp [go_sem, ev_min2, ev_max2, *])⟩) ?_
       walk_nrm
       refine f_op rfl rfl (by k_ne) (fun w => ⟨run_eq_of (fun K hK => by go_simp; exact hK), listed_nil (by simp [go_sem, ev_min2, ev_max2, *])⟩) ?_
       walk_nrm
       refine f_ctl rfl (fun w => stepG_region_end) ?_
       refine f_ctl rfl (fun w => stepG_ret') ?_
       refine Fine.fin (A := fun _ => False) (T := fun _ _ => 0) (d := 0) rfl rfl rfl Try.func9 (by kernel_rfl) (v := .bool true) (fun w _ => ?_) (fun w _ e he => ?_) (fun T d => ⟨rfl, co.bel.trans (Bel.tp _ T d)⟩)
       · simp [results, Try.f9, go_sem, Frame.at]
       · rw [show (results Try.f9 _).events Try.prog w #[] = #[] by simp [results, Try.f9, go_sem, Frame.at]] at he
         simp at he
     | true =>
       obtain ⟨k, hk⟩ : ∃ k, bs1.length % 4 = k := ⟨_, rfl⟩
       have hk4 : k < 4 := by omega
       have hrem0 : (bs1.length : Int) % 4 = (k : Int) := rem_of 4 hk
       have hrem : Int.tmod (bs1.length : Int) 4 = (k : Int) := by rw [Int.tmod_eq_emod_of_nonneg (by omega), hrem0]
       obtain ⟨t, ht⟩ : ∃ t : Bool, (Int.tmod (bs1.length : Int) 2 == 0) = t := ⟨_, rfl⟩
       obtain ⟨b, hbk⟩ := get_some (l := f) (k := k) (by rw [(flash_four hok).1]; exact hk4)
       obtain ⟨x, one, ex⟩ : ∃ x one, flashWipe f (k : Int) t = (x, one) := ⟨_, _, rfl⟩
       obtain ⟨y, fine, ey⟩ : ∃ y fine, flashWrite f (k : Int) ⟨1, 600, 1, 0⟩ t = (y, fine) := ⟨_, _, rfl⟩
       have hone : one = true → flashOk x = true ∧ wSum x = wSum f + 1 := by
        rw [flashWipe_at hok hbk] at ex
        split at ex
        · cases ex; intro e; cases e
        · rename_i h2
          cases ex; exact fun _ => ⟨wiped_keeps hok hbk h2 t, wiped_sum hbk t⟩
       have hfine : fine = true → flashOk y = true ∧ wSum y = wSum f := by
        rcases flashWrite_cases hok (k : Int) ⟨1, 600, 1, 0⟩ t with e | ⟨i, b', h1, _, h2, e⟩
        · rw [ey] at e; intro e'; rw [e'] at e; cases e
        · rw [ey] at e; cases e; exact fun _ => ⟨h2, written_sum h1 _ _⟩
       have hsum1 : IntKind.i64.wrap (wSum f + 1) = wSum f + 1 := by
        have := wSum_small hok (k := f.length); rw [List.take_of_length_le (Nat.le_refl _)] at this; rw [IntKind.wrap_i64]; omega
       have hlost : wTorn f ≤ 16 := by
        have := (wTorn_small hok (k := f.length)).2; rwa [List.take_of_length_le (Nat.le_refl _)] at this
       clear hbk hk hrem0
       refine f_op (v := .bool false) rfl rfl (by k_ne) (fun w => ⟨run_eq_of (fun K hK => by have h9 := hok; go_simp; exact hK), listed_nil (by have h9 := hok; simp [go_sem, ev_min2, ev_max2, *])⟩) ?_
       walk_nrm
       refine f_op (v := .bool false) rfl rfl (by k_ne) (fun w => ⟨run_eq_of (fun K hK => by go_simp; exact hK), listed_nil (by simp [go_sem, ev_min2, ev_max2, *])⟩) ?_
       walk_nrm
       refine f_ctl rfl (fun w => stepG_region_end) ?_
       refine f_ctl rfl (fun w => stepG_cond (t := false) (by simp [Act.eval])) ?_
       simp only [if_true, Bool.false_eq_true, if_false]
       refine f_ctl rfl (fun w => stepG_skip) ?_
       refine f_ctl rfl (fun w => stepG_seq) ?_
       refine f_ctl rfl (fun w => stepG_region) ?_
       simp only [List.size_toArray, List.length_cons, List.length_nil, Nat.reduceAdd, Nat.zero_add, List.range, List.range.loop]
       refine f_op rfl rfl (by k_ne) (fun w => ⟨run_eq_of (fun K hK => by go_simp; exact hK), listed_nil (by simp [go_sem, ev_min2, ev_max2, *])⟩) ?_
       walk_nrm
       refine f_op rfl rfl (by k_ne) (fun w => ⟨run_eq_of (fun K hK => by go_simp; exact hK), listed_nil (by simp [go_sem, ev_min2, ev_max2, *])⟩) ?_
       walk_nrm
       refine f_op (v := .int .i64 (k : Int)) rfl rfl (by k_ne) (fun w => ⟨run_eq_of (fun K hK => by have h9 := hrem; go_simp; exact hK), listed_nil (by have h9 := hrem; simp [go_sem, ev_min2, ev_max2, *])⟩) ?_
       walk_nrm
       refine f_op rfl rfl (by k_ne) (fun w => ⟨run_eq_of (fun K hK => by go_simp; exact hK), listed_nil (by simp [go_sem, ev_min2, ev_max2, *])⟩) ?_
       walk_nrm
       refine f_ctl rfl (fun w => stepG_region_end) ?_
       refine f_ctl rfl (fun w => stepG_seq) ?_
       refine f_ctl rfl (fun w => stepG_region) ?_
       simp only [List.size_toArray, List.length_cons, List.length_nil, Nat.reduceAdd, Nat.zero_add, List.range, List.range.loop]
       refine f_op rfl rfl (by k_ne) (fun w => ⟨run_eq_of (fun K hK => by go_simp; exact hK), listed_nil (by simp [go_sem, ev_min2, ev_max2, *])⟩) ?_
       walk_nrm
       refine f_op rfl rfl (by k_ne) (fun w => ⟨run_eq_of (fun K hK => by go_simp; exact hK), listed_nil (by simp [go_sem, ev_min2, ev_max2, *])⟩) ?_
       walk_nrm
       refine f_op rfl rfl (by k_ne) (fun w => ⟨run_eq_of (fun K hK => by go_simp; exact hK), listed_nil (by simp [go_sem, ev_min2, ev_max2, *])⟩) ?_
       walk_nrm
       refine f_op rfl rfl (by k_ne) (fun w => ⟨run_eq_of (fun K hK => by go_simp; exact hK), listed_nil (by simp [go_sem, ev_min2, ev_max2, *])⟩) ?_
       walk_nrm
       refine f_op rfl rfl (by k_ne) (fun w => ⟨run_eq_of (fun K hK => by go_simp; exact hK), listed_nil (by simp [go_sem, ev_min2, ev_max2, *])⟩) ?_
       walk_nrm
       refine f_op (v := .bool t) rfl rfl (by k_ne) (fun w => ⟨run_eq_of (fun K hK => by have h9 := ht; go_simp; exact hK), listed_nil (by have h9 := ht; simp [go_sem, ev_min2, ev_max2, *])⟩) ?_
       walk_nrm
       refine f_enter rfl rfl (by k_ne) rfl Try.func22 rfl rfl ?_
       walk_nrm
       refine Co.call co (R := fun v w' => ∃ ad c, v = .tuple #[.slice ad x.length c, .bool one] ∧ Fl w' ad x) (fun v w T d ⟨ad, c, h1, h2⟩ => ⟨ad, c, h1, h2.bel (Bel.pt w T d)⟩) (by kernel_rfl) (fun v hx => by simp only [List.mem_toArray, List.mem_cons, List.not_mem_nil, or_false] at hx; rcases hx with rfl | rfl | rfl; exact hv_f; exact .int _ _; exact .bool _) (fun T d' => (show Calls Try.prog _ _ _ (FlPost (x, one) _) from ex ▸ impl_FlashWipe f (k : Int) t (some ⟨g, off, none⟩) d (Go.Proofs.Ytclnogfmmekooaa.tp (cutW (good Gd) w) T d') (hf_f.bel (Bel.tp _ T d'))).mono fun e w' ⟨ad, c, h1, h2, h3, h4⟩ => ⟨_, h1, ⟨ad, c, rfl, h3.fl⟩, h4⟩) ?_
       clear co
       rintro A v w hA co hb hv_x ⟨ad_x, c_x, rfl, hf_x⟩
       replace hv_x := hv_x.pair
       replace hv_f := hv_f.mono hA
       replace hf_f := hf_f.bel hb.cut
       clear hb hA
       rw [Frame.finish_at]
       walk_nrm
       refine f_op rfl rfl (by k_ne) (fun w => ⟨run_eq_of (fun K hK => by go_simp; exact hK), listed_nil (by simp [go_sem, ev_min2, ev_max2, *])⟩) ?_
       walk_nrm
       refine f_op rfl rfl (by k_ne) (fun w => ⟨run_eq_of (fun K hK => by go_simp; exact hK), listed_nil (by simp [go_sem, ev_min2, ev_max2, *])⟩) ?_
       walk_nrm
       refine f_op rfl rfl (by k_ne) (fun w => ⟨run_eq_of (fun K hK => by go_simp; exact hK), listed_nil (by simp [go_sem, ev_min2, ev_max2, *])⟩) ?_
       walk_nrm
       refine f_op rfl rfl (by k_ne) (fun w => ⟨run_eq_of (fun K hK => by go_simp; exact hK), listed_nil (by simp [go_sem, ev_min2, ev_max2, *])⟩) ?_
       walk_nrm
       refine f_op rfl rfl (by k_ne) (fun w => ⟨run_eq_of (fun K hK => by go_simp; exact hK), listed_nil (by simp [go_sem, ev_min2, ev_max2, *])⟩) ?_
       walk_nrm
       refine f_ctl rfl (fun w => stepG_region_end) ?_
       refine f_ctl rfl (fun w => stepG_seq) ?_
       refine f_ctl rfl (fun w => stepG_region) ?_
       simp only [List.size_toArray, List.length_cons, List.length_nil, Nat.reduceAdd, Nat.zero_add, List.range, List.range.loop]
       refine f_op rfl rfl (by k_ne) (fun w => ⟨run_eq_of (fun K hK => by go_simp; exact hK), listed_nil (by simp [go_sem, ev_min2, ev_max2, *])⟩) ?_
       walk_nrm
       refine f_op rfl rfl (by k_ne) (fun w => ⟨run_eq_of (fun K hK => by go_simp; exact hK), listed_nil (by simp [go_sem, ev_min2, ev_max2, *])⟩) ?_
       walk_nrm
       refine f_op rfl rfl (by k_ne) (fun w => ⟨run_eq_of (fun K hK => by go_simp; exact hK), listed_nil (by simp [go_sem, ev_min2, ev_max2, *])⟩) ?_
       walk_nrm
       refine f_op rfl rfl (by k_ne) (fun w => ⟨run_eq_of (fun K hK => by go_simp; exact hK), listed_nil (by simp [go_sem, ev_min2, ev_max2, *])⟩) ?_
       walk_nrm
       refine f_op rfl rfl (by k_ne) (fun w => ⟨run_eq_of (fun K hK => by go_simp; exact hK), listed_nil (by simp [go_sem, ev_min2, ev_max2, *])⟩) ?_
       walk_nrm
       refine f_op rfl rfl (by k_ne) (fun w => ⟨run_eq_of (fun K hK => by go_simp; exact hK), listed_nil (by simp [go_sem, ev_min2, ev_max2, *])⟩) ?_
       walk_nrm
       refine f_op (v := .bool t) rfl rfl (by k_ne) (fun w => ⟨run_eq_of (fun K hK => by have h9 := ht; go_simp; exact hK), listed_nil (by have h9 := ht; simp [go_sem, ev_min2, ev_max2, *])⟩) ?_
       walk_nrm
       refine f_enter rfl rfl (by k_ne) rfl Try.func26 rfl rfl ?_
       walk_nrm
       refine Co.call co (R := fun v w' => ∃ ad c, v = .tuple #[.slice ad y.length c, .bool fine] ∧ Fl w' ad y) (fun v w T d ⟨ad, c, h1, h2⟩ => ⟨ad, c, h1, h2.bel (Bel.pt w T d)⟩) (by kernel_rfl) (fun v hx => by simp only [List.mem_toArray, List.mem_cons, List.not_mem_nil, or_false] at hx; rcases hx with rfl | rfl | rfl | rfl; exact hv_f; exact .int _ _; exact .agg (fun v hv => by simp at hv; rcases hv with rfl | rfl | rfl | rfl <;> exact .int _ _); exact .bool _) (fun T d' => (show Calls Try.prog _ _ _ (FlPost (y, fine) _) from ey ▸ impl_FlashWrite f (k : Int) ⟨1, 600, 1, 0⟩ t (some ⟨g, off, none⟩) f.length d (Go.Proofs.Ytclnogfmmekooaa.tp (cutW (good Gd) w) T d') rfl (hf_f.bel (Bel.tp _ T d'))).mono fun e w' ⟨ad, c, h1, h2, h3, h4⟩ => ⟨_, h1, ⟨ad, c, rfl, h3.fl⟩, h4⟩) ?_
       clear co
       rintro A v w hA co hb hv_y ⟨ad_y, c_y, rfl, hf_y⟩
       replace hv_y := hv_y.pair
       replace hv_f := hv_f.mono hA
       replace hf_f := hf_f.bel hb.cut
       replace hv_x := hv_x.mono hA
       replace hf_x := hf_x.bel hb.cut
       clear hb hA
       rw [Frame.finish_at]
       walk_nrm
       refine f_op rfl rfl (by k_ne) (fun w => ⟨run_eq_of (fun K hK => by go_simp; exact hK), listed_nil (by simp [go_sem, ev_min2, ev_max2, *])⟩) ?_
       walk_nrm
       refine f_op rfl rfl (by k_ne) (fun w => ⟨run_eq_of (fun K hK => by go_simp; exact hK), listed_nil (by simp [go_sem, ev_min2, ev_max2, *])⟩) ?_
       walk_nrm
       refine f_op rfl rfl (by k_ne) (fun w => ⟨run_eq_of (fun K hK => by go_simp; exact hK), listed_nil (by simp [go_sem, ev_min2, ev_max2, *])⟩) ?_
       walk_nrm
       refine f_op rfl rfl (by k_ne) (fun w => ⟨run_eq_of (fun K hK => by go_simp; exact hK), listed_nil (by simp [go_sem, ev_min2, ev_max2, *])⟩) ?_
       walk_nrm
       refine f_op rfl rfl (by k_ne) (fun w => ⟨run_eq_of (fun K hK => by go_simp; exact hK), listed_nil (by simp [go_sem, ev_min2, ev_max2, *])⟩) ?_
       walk_nrm
       refine f_ctl rfl (fun w => stepG_region_end) ?_
       refine f_ctl rfl (fun w => stepG_seq) ?_
       refine f_ctl rfl (fun w => stepG_region) ?_
       simp only [List.size_toArray, List.length_cons, List.length_nil, Nat.reduceAdd, Nat.zero_add, List.range, List.range.loop]
       refine f_op rfl rfl (by k_ne) (fun w => ⟨run_eq_of (fun K hK => by go_simp; exact hK), listed_nil (by simp [go_sem, ev_min2, ev_max2, *])⟩) ?_
       walk_nrm
       cases one with
       | false =>
         refine f_op (v := .bool true) rfl rfl (by k_ne) (fun w => ⟨run_eq_of (fun K hK => by go_simp; exact hK), listed_nil (by simp [go_sem, ev_min2, ev_max2, *])⟩) ?_
         walk_nrm
         refine f_op (v := .bool true) rfl rfl (by k_ne) (fun w => ⟨run_eq_of (fun K hK => by go_simp; exact hK), listed_nil (by simp [go_sem, ev_min2, ev_max2, *])⟩) ?_
         walk_nrm
         refine f_skip rfl rfl ?_
         walk_nrm
         refine f_skip rfl rfl ?_
         walk_nrm
         refine f_skip rfl rfl ?_
         walk_nrm
         refine f_skip rfl rfl ?_
         walk_nrm
         refine f_skip rfl rfl ?_
         walk_nrm
         refine f_op (v := .bool true) rfl rfl (by k_ne) (fun w => ⟨run_eq_of (fun K hK => by go_simp; exact hK), listed_nil (by simp [go_sem, ev_min2, ev_max2, *])⟩) ?_
         walk_nrm
         refine f_op (v := .bool true) rfl rfl (by k_ne) (fun w => ⟨run_eq_of (fun K hK => by go_simp; exact hK), listed_nil (by simp [go_sem, ev_min2, ev_max2, *])⟩) ?_
         walk_nrm
         refine f_op rfl rfl (by k_ne) (fun w => ⟨run_eq_of (fun K hK => by go_simp; exact hK), listed_nil (by simp [go_sem, ev_min2, ev_max2, *])⟩) ?_
         walk_nrm
         cases fine with
         | false =>
           refine f_op (v := .bool true) rfl rfl (by k_ne) (fun w => ⟨run_eq_of (fun K hK => by go_simp; exact hK), listed_nil (by simp [go_sem, ev_min2, ev_max2, *])⟩) ?_
           walk_nrm
           refine f_op (v := .bool true) rfl rfl (by k_ne) (fun w => ⟨run_eq_of (fun K hK => by go_simp; exact hK), listed_nil (by simp [go_sem, ev_min2, ev_max2, *])⟩) ?_
           walk_nrm
           refine f_skip rfl rfl ?_
           walk_nrm
           refine f_skip rfl rfl ?_
           walk_nrm
           refine f_skip rfl rfl ?_
           walk_nrm
           refine f_skip rfl rfl ?_
           walk_nrm
           refine f_op (v := .bool true) rfl rfl (by k_ne) (fun w => ⟨run_eq_of (fun K hK => by go_simp; exact hK), listed_nil (by simp [go_sem, ev_min2, ev_max2, *])⟩) ?_
           walk_nrm
           refine f_op (v := .bool true) rfl rfl (by k_ne) (fun w => ⟨run_eq_of (fun K hK => by go_simp; exact hK), listed_nil (by simp [go_sem, ev_min2, ev_max2, *])⟩) ?_
           walk_nrm
           refine f_op (v := .bool true) rfl rfl (by k_ne) (fun w => ⟨run_eq_of (fun K hK => by go_simp; exact hK), listed_nil (by simp [go_sem, ev_min2, ev_max2, *])⟩) ?_
           walk_nrm
           refine f_op rfl rfl (by k_ne) (fun w => ⟨run_eq_of (fun K hK => by go_simp; exact hK), listed_nil (by simp [go_sem, ev_min2, ev_max2, *])⟩) ?_
           walk_nrm
           refine f_enter rfl rfl (by k_ne) rfl Try.func17 rfl rfl ?_
           walk_nrm
           refine Co.wearLost co hv_f hf_f ?_
           clear co
           intro w SB A hA co hb
           replace hv_f := hv_f.mono hA
           replace hf_f := hf_f.bel hb.cut
           replace hv_x := hv_x.mono hA
           replace hf_x := hf_x.bel hb.cut
           replace hv_y := hv_y.mono hA
           replace hf_y := hf_y.bel hb.cut
           clear hb hA
           rw [Frame.finish_at]
           walk_nrm
           refine f_op (v := .bool true) rfl rfl (by k_ne) (fun w => ⟨run_eq_of (fun K hK => by have h9 := hok; have h8 := hlost; go_simp; exact hK), listed_nil (by have h9 := hok; have h8 := hlost; simp [go_sem, ev_min2, ev_max2, *])⟩) ?_
           walk_nrm
           refine f_op (v := .bool true) rfl rfl (by k_ne) (fun w => ⟨run_eq_of (fun K hK => by go_simp; exact hK), listed_nil (by simp [go_sem, ev_min2, ev_max2, *])⟩) ?_
           walk_nrm
           refine f_op rfl rfl (by k_ne) (fun w => ⟨run_eq_of (fun K hK => by go_simp; exact hK), listed_nil (by simp [go_sem, ev_min2, ev_max2, *])⟩) ?_
           walk_nrm
           refine f_ctl rfl (fun w => stepG_region_end) ?_
           refine f_ctl rfl (fun w => stepG_ret') ?_
           refine Fine.fin (A := fun _ => False) (T := fun _ _ => 0) (d := 0) rfl rfl rfl Try.func9 (by kernel_rfl) (v := .bool true) (fun w _ => ?_) (fun w _ e he => ?_) (fun T d => ⟨rfl, co.bel.trans (Bel.tp _ T d)⟩)
           · simp [results, Try.f9, go_sem, Frame.at]
           · rw [show (results Try.f9 _).events Try.prog w #[] = #[] by simp [results, Try.f9, go_sem, Frame.at]] at he
             simp at he
         | true =>
           obtain ⟨hy1, hy2⟩ := hfine rfl
           refine f_op (v := .bool false) rfl rfl (by k_ne) (fun w => ⟨run_eq_of (fun K hK => by go_simp; exact hK), listed_nil (by simp [go_sem, ev_min2, ev_max2, *])⟩) ?_
           walk_nrm
           refine f_op (v := .bool false) rfl rfl (by k_ne) (fun w => ⟨run_eq_of (fun K hK => by go_simp; exact hK), listed_nil (by simp [go_sem, ev_min2, ev_max2, *])⟩) ?_
           walk_nrm
           refine f_op rfl rfl (by k_ne) (fun w => ⟨run_eq_of (fun K hK => by go_simp; exact hK), listed_nil (by simp [go_sem, ev_min2, ev_max2, *])⟩) ?_
           walk_nrm
           refine f_enter rfl rfl (by k_ne) rfl Try.func20 rfl rfl ?_
           walk_nrm
           refine Co.wearAll co hv_y hf_y ?_
           clear co
           intro w SB A hA co hb
           replace hv_f := hv_f.mono hA
           replace hf_f := hf_f.bel hb.cut
           replace hv_x := hv_x.mono hA
           replace hf_x := hf_x.bel hb.cut
           replace hv_y := hv_y.mono hA
           replace hf_y := hf_y.bel hb.cut
           clear hb hA
           rw [Frame.finish_at]
           walk_nrm
           refine f_op rfl rfl (by k_ne) (fun w => ⟨run_eq_of (fun K hK => by go_simp; exact hK), listed_nil (by simp [go_sem, ev_min2, ev_max2, *])⟩) ?_
           walk_nrm
           refine f_op (v := .bool true) rfl rfl (by k_ne) (fun w => ⟨run_eq_of (fun K hK => by have h9 := hok; have h8 := hy1; have h7 := hy2; go_simp; exact hK), listed_nil (by have h9 := hok; have h8 := hy1; have h7 := hy2; simp [go_sem, ev_min2, ev_max2, *])⟩) ?_
           walk_nrm
           refine f_op (v := .bool true) rfl rfl (by k_ne) (fun w => ⟨run_eq_of (fun K hK => by go_simp; exact hK), listed_nil (by simp [go_sem, ev_min2, ev_max2, *])⟩) ?_
           walk_nrm
           refine f_op (v := .bool true) rfl rfl (by k_ne) (fun w => ⟨run_eq_of (fun K hK => by go_simp; exact hK), listed_nil (by simp [go_sem, ev_min2, ev_max2, *])⟩) ?_
           walk_nrm
           refine f_op (v := .bool true) rfl rfl (by k_ne) (fun w => ⟨run_eq_of (fun K hK => by go_simp; exact hK), listed_nil (by simp [go_sem, ev_min2, ev_max2, *])⟩) ?_
           walk_nrm
           refine f_op rfl rfl (by k_ne) (fun w => ⟨run_eq_of (fun K hK => by go_simp; exact hK), listed_nil (by simp [go_sem, ev_min2, ev_max2, *])⟩) ?_
           walk_nrm
           refine f_enter rfl rfl (by k_ne) rfl Try.func17 rfl rfl ?_
           walk_nrm
           refine Co.wearLost co hv_f hf_f ?_
           clear co
           intro w SB A hA co hb
           replace hv_f := hv_f.mono hA
           replace hf_f := hf_f.bel hb.cut
           replace hv_x := hv_x.mono hA
           replace hf_x := hf_x.bel hb.cut
           replace hv_y := hv_y.mono hA
           replace hf_y := hf_y.bel hb.cut
           clear hb hA
           rw [Frame.finish_at]
           walk_nrm
           refine f_op (v := .bool true) rfl rfl (by k_ne) (fun w => ⟨run_eq_of (fun K hK => by have h9 := hok; have h8 := hlost; go_simp; exact hK), listed_nil (by have h9 := hok; have h8 := hlost; simp [go_sem, ev_min2, ev_max2, *])⟩) ?_
           walk_nrm
           refine f_op (v := .bool true) rfl rfl (by k_ne) (fun w => ⟨run_eq_of (fun K hK => by go_simp; exact hK), listed_nil (by simp [go_sem, ev_min2, ev_max2, *])⟩) ?_
           walk_nrm
           refine f_op rfl rfl (by k_ne) (fun w => ⟨run_eq_of (fun K hK => by go_simp; exact hK), listed_nil (by simp [go_sem, ev_min2, ev_max2, *])⟩) ?_
           walk_nrm
           refine f_ctl rfl (fun w => stepG_region_end) ?_
           refine f_ctl rfl (fun w => stepG_ret') ?_
           refine Fine.fin (A := fun _ => False) (T := fun _ _ => 0) (d := 0) rfl rfl rfl Try.func9 (by kernel_rfl) (v := .bool true) (fun w _ => ?_) (fun w _ e he => ?_) (fun T d => ⟨rfl, co.bel.trans (Bel.tp _ T d)⟩)
           · simp [results, Try.f9, go_sem, Frame.at]
           · rw [show (results Try.f9 _).events Try.prog w #[] = #[] by simp [results, Try.f9, go_sem, Frame.at]] at he
             simp at he
       | true =>
         obtain ⟨hx1, hx2⟩ := hone rfl
         refine f_op (v := .bool false) rfl rfl (by k_ne) (fun w => ⟨run_eq_of (fun K hK => by go_simp; exact hK), listed_nil (by simp [go_sem, ev_min2, ev_max2, *])⟩) ?_
         walk_nrm
         refine f_op (v := .bool false) rfl rfl (by k_ne) (fun w => ⟨run_eq_of (fun K hK => by go_simp; exact hK), listed_nil (by simp [go_sem, ev_min2, ev_max2, *])⟩) ?_
         walk_nrm
         refine f_op rfl rfl (by k_ne) (fun w => ⟨run_eq_of (fun K hK => by go_simp; exact hK), listed_nil (by simp [go_sem, ev_min2, ev_max2, *])⟩) ?_
         walk_nrm
         refine f_enter rfl rfl (by k_ne) rfl Try.func20 rfl rfl ?_
         walk_nrm
         refine Co.wearAll co hv_x hf_x ?_
         clear co
         intro w SB A hA co hb
         replace hv_f := hv_f.mono hA
         replace hf_f := hf_f.bel hb.cut
         replace hv_x := hv_x.mono hA
         replace hf_x := hf_x.bel hb.cut
         replace hv_y := hv_y.mono hA
         replace hf_y := hf_y.bel hb.cut
         clear hb hA
         rw [Frame.finish_at]
         walk_nrm
         refine f_op rfl rfl (by k_ne) (fun w => ⟨run_eq_of (fun K hK => by go_simp; exact hK), listed_nil (by simp [go_sem, ev_min2, ev_max2, *])⟩) ?_
         walk_nrm
         refine f_op (v := .int .i64 (wSum f + 1)) rfl rfl (by k_ne) (fun w => ⟨run_eq_of (fun K hK => by have h9 := hok; have h8 := hsum1; go_simp; exact hK), listed_nil (by have h9 := hok; have h8 := hsum1; simp [go_sem, ev_min2, ev_max2, *])⟩) ?_
         walk_nrm
         refine f_op (v := .bool true) rfl rfl (by k_ne) (fun w => ⟨run_eq_of (fun K hK => by have h9 := hx1; have h8 := hx2; go_simp; exact hK), listed_nil (by have h9 := hx1; have h8 := hx2; simp [go_sem, ev_min2, ev_max2, *])⟩) ?_
         walk_nrm
         refine f_op (v := .bool true) rfl rfl (by k_ne) (fun w => ⟨run_eq_of (fun K hK => by go_simp; exact hK), listed_nil (by simp [go_sem, ev_min2, ev_max2, *])⟩) ?_
         walk_nrm
         refine f_op (v := .bool true) rfl rfl (by k_ne) (fun w => ⟨run_eq_of (fun K hK => by go_simp; exact hK), listed_nil (by simp [go_sem, ev_min2, ev_max2, *])⟩) ?_
         walk_nrm
         refine f_op rfl rfl (by k_ne) (fun w => ⟨run_eq_of (fun K hK => by go_simp; exact hK), listed_nil (by simp [go_sem, ev_min2, ev_max2, *])⟩) ?_
         walk_nrm
         cases fine with
         | false =>
           refine f_op (v := .bool true) rfl rfl (by k_ne) (fun w => ⟨run_eq_of (fun K hK => by go_simp; exact hK), listed_nil (by simp [go_sem, ev_min2, ev_max2, *])⟩) ?_
           walk_nrm
           refine f_op (v := .bool true) rfl rfl (by k_ne) (fun w => ⟨run_eq_of (fun K hK => by go_simp; exact hK), listed_nil (by simp [go_sem, ev_min2, ev_max2, *])⟩) ?_
           walk_nrm
           refine f_skip rfl rfl ?_
           walk_nrm
           refine f_skip rfl rfl ?_
           walk_nrm
           refine f_skip rfl rfl ?_
           walk_nrm
           refine f_skip rfl rfl ?_
           walk_nrm
           refine f_op (v := .bool true) rfl rfl (by k_ne) (fun w => ⟨run_eq_of (fun K hK => by go_simp; exact hK), listed_nil (by simp [go_sem, ev_min2, ev_max2, *])⟩) ?_
           walk_nrm
           refine f_op (v := .bool true) rfl rfl (by k_ne) (fun w => ⟨run_eq_of (fun K hK => by go_simp; exact hK), listed_nil (by simp [go_sem, ev_min2, ev_max2, *])⟩) ?_
           walk_nrm
           refine f_op (v := .bool true) rfl rfl (by k_ne) (fun w => ⟨run_eq_of (fun K hK => by go_simp; exact hK), listed_nil (by simp [go_sem, ev_min2, ev_max2, *])⟩) ?_
           walk_nrm
           refine f_op rfl rfl (by k_ne) (fun w => ⟨run_eq_of (fun K hK => by go_simp; exact hK), listed_nil (by simp [go_sem, ev_min2, ev_max2, *])⟩) ?_
           walk_nrm
           refine f_enter rfl rfl (by k_ne) rfl Try.func17 rfl rfl ?_
           walk_nrm
           refine Co.wearLost co hv_f hf_f ?_
           clear co
           intro w SB A hA co hb
           replace hv_f := hv_f.mono hA
           replace hf_f := hf_f.bel hb.cut
           replace hv_x := hv_x.mono hA
           replace hf_x := hf_x.bel hb.cut
           replace hv_y := hv_y.mono hA
           replace hf_y := hf_y.bel hb.cut
           clear hb hA
           rw [Frame.finish_at]
           walk_nrm
           refine f_op (v := .bool true) rfl rfl (by k_ne) (fun w => ⟨run_eq_of (fun K hK => by have h9 := hok; have h8 := hlost; go_simp; exact hK), listed_nil (by have h9 := hok; have h8 := hlost; simp [go_sem, ev_min2, ev_max2, *])⟩) ?_
           walk_nrm
           refine f_op (v := .bool true) rfl rfl (by k_ne) (fun w => ⟨run_eq_of (fun K hK => by go_simp; exact hK), listed_nil (by simp [go_sem, ev_min2, ev_max2, *])⟩) ?_
           walk_nrm
           refine f_op rfl rfl (by k_ne) (fun w => ⟨run_eq_of (fun K hK => by go_simp; exact hK), listed_nil (by simp [go_sem, ev_min2, ev_max2, *])⟩) ?_
           walk_nrm
           refine f_ctl rfl (fun w => stepG_region_end) ?_
           refine f_ctl rfl (fun w => stepG_ret') ?_
           refine Fine.fin (A := fun _ => False) (T := fun _ _ => 0) (d := 0) rfl rfl rfl Try.func9 (by kernel_rfl) (v := .bool true) (fun w _ => ?_) (fun w _ e he => ?_) (fun T d => ⟨rfl, co.bel.trans (Bel.tp _ T d)⟩)
           · simp [results, Try.f9, go_sem, Frame.at]
           · rw [show (results Try.f9 _).events Try.prog w #[] = #[] by simp [results, Try.f9, go_sem, Frame.at]] at he
             simp at he
         | true =>
           obtain ⟨hy1, hy2⟩ := hfine rfl
           refine f_op (v := .bool false) rfl rfl (by k_ne) (fun w => ⟨run_eq_of (fun K hK => by go_simp; exact hK), listed_nil (by simp [go_sem, ev_min2, ev_max2, *])⟩) ?_
           walk_nrm
           refine f_op (v := .bool false) rfl rfl (by k_ne) (fun w => ⟨run_eq_of (fun K hK => by go_simp; exact hK), listed_nil (by simp [go_sem, ev_min2, ev_max2, *])⟩) ?_
           walk_nrm
           refine f_op rfl rfl (by k_ne) (fun w => ⟨run_eq_of (fun K hK => by go_simp; exact hK), listed_nil (by simp [go_sem, ev_min2, ev_max2, *])⟩) ?_
           walk_nrm
           refine f_enter rfl rfl (by k_ne) rfl Try.func20 rfl rfl ?_
           walk_nrm
           refine Co.wearAll co hv_y hf_y ?_
           clear co
           intro w SB A hA co hb
           replace hv_f := hv_f.mono hA
           replace hf_f := hf_f.bel hb.cut
           replace hv_x := hv_x.mono hA
           replace hf_x := hf_x.bel hb.cut
           replace hv_y := hv_y.mono hA
           replace hf_y := hf_y.bel hb.cut
           clear hb hA
           rw [Frame.finish_at]
           walk_nrm
           refine f_op rfl rfl (by k_ne) (fun w => ⟨run_eq_of (fun K hK => by go_simp; exact hK), listed_nil (by simp [go_sem, ev_min2, ev_max2, *])⟩) ?_
           walk_nrm
           refine f_op (v := .bool true) rfl rfl (by k_ne) (fun w => ⟨run_eq_of (fun K hK => by have h9 := hok; have h8 := hy1; have h7 := hy2; go_simp; exact hK), listed_nil (by have h9 := hok; have h8 := hy1; have h7 := hy2; simp [go_sem, ev_min2, ev_max2, *])⟩) ?_
           walk_nrm
           refine f_op (v := .bool true) rfl rfl (by k_ne) (fun w => ⟨run_eq_of (fun K hK => by go_simp; exact hK), listed_nil (by simp [go_sem, ev_min2, ev_max2, *])⟩) ?_
           walk_nrm
           refine f_op (v := .bool true) rfl rfl (by k_ne) (fun w => ⟨run_eq_of (fun K hK => by go_simp; exact hK), listed_nil (by simp [go_sem, ev_min2, ev_max2, *])⟩) ?_
           walk_nrm
           refine f_op (v := .bool true) rfl rfl (by k_ne) (fun w => ⟨run_eq_of (fun K hK => by go_simp; exact hK), listed_nil (by simp [go_sem, ev_min2, ev_max2, *])⟩) ?_
           walk_nrm
           refine f_op rfl rfl (by k_ne) (fun w => ⟨run_eq_of (fun K hK => by go_simp; exact hK), listed_nil (by simp [go_sem, ev_min2, ev_max2, *])⟩) ?_
           walk_nrm
           refine f_enter rfl rfl (by k_ne) rfl Try.func17 rfl rfl ?_
           walk_nrm
           refine Co.wearLost co hv_f hf_f ?_
           clear co
           intro w SB A hA co hb
           replace hv_f := hv_f.mono hA
           replace hf_f := hf_f.bel hb.cut
           replace hv_x := hv_x.mono hA
           replace hf_x := hf_x.bel hb.cut
           replace hv_y := hv_y.mono hA
           replace hf_y := hf_y.bel hb.cut
           clear hb hA
           rw [Frame.finish_at]
           walk_nrm
           refine f_op (v := .bool true) rfl rfl (by k_ne) (fun w => ⟨run_eq_of (fun K hK => by have h9 := hok; have h8 := hlost; go_simp; exact hK), listed_nil (by have h9 := hok; have h8 := hlost; simp [go_sem, ev_min2, ev_max2, *])⟩) ?_
           walk_nrm
           refine f_op (v := .bool true) rfl rfl (by k_ne) (fun w => ⟨run_eq_of (fun K hK => by go_simp; exact hK), listed_nil (by simp [go_sem, ev_min2, ev_max2, *])⟩) ?_
           walk_nrm
           refine f_op rfl rfl (by k_ne) (fun w => ⟨run_eq_of (fun K hK => by go_simp; exact hK), listed_nil (by simp [go_sem, ev_min2, ev_max2, *])⟩) ?_
           walk_nrm
           refine f_ctl rfl (fun w => stepG_region_end) ?_
           refine f_ctl rfl (fun w => stepG_ret') ?_
           refine Fine.fin (A := fun _ => False) (T := fun _ _ => 0) (d := 0) rfl rfl rfl Try.func9 (by kernel_rfl) (v := .bool true) (fun w _ => ?_) (fun w _ e he => ?_) (fun T d => ⟨rfl, co.bel.trans (Bel.tp _ T d)⟩)
           · simp [results, Try.f9, go_sem, Frame.at]
           · rw [show (results Try.f9 _).events Try.prog w #[] = #[] by simp [results, Try.f9, go_sem, Frame.at]] at he
             simp at he
end Go.Proofs.Ytclnogfmmekooaa
