/- The law FnWearSum beside leavers. (Printed by genv5.py.) -/
import Derived.Test.YtclnogfmmekooaaZ8
namespace Go.Proofs.Ytclnogfmmekooaa
set_option linter.unusedVariables false
set_option linter.unusedSimpArgs false
open Go.Conc Go.ConcN Go.ConcR.Gen Go.RowKit
set_option maxRecDepth 100000
set_option maxHeartbeats 4000000
theorem Code.tp {w : World} {A : Option Addr} {bs : List Nat} {c : Nat} (h : Code w A bs c) (T : Nat → Question → Nat) (d : Nat) : Code (Go.Proofs.Ytclnogfmmekooaa.tp w T d) A bs c := ⟨h.len, h.cap, h.byte, h.row⟩
theorem small_len4 {f : List Bk} (h : flSmall f) : f.length < 1000000000000 := by have := h.1; omega
theorem lo_le : ∀ (l : List Bk) (a : Int), (l.foldl loS a ≤ a) ∧ ∀ b ∈ l, l.foldl loS a ≤ b.worn
 | [], a => ⟨Int.le_refl _, by simp⟩
 | x :: l, a => by
   rw [List.foldl_cons]
   have ih := lo_le l (loS a x)
   have h1 : loS a x ≤ a ∧ loS a x ≤ x.worn := by unfold loS; split <;> omega
   refine ⟨by omega, fun b hb => ?_⟩
   rcases List.mem_cons.1 hb with rfl | hb
   · omega
   · exact ih.2 b hb
theorem hi_ge : ∀ (l : List Bk) (a : Int), (a ≤ l.foldl hiS a) ∧ ∀ b ∈ l, b.worn ≤ l.foldl hiS a
 | [], a => ⟨Int.le_refl _, by simp⟩
 | x :: l, a => by
   rw [List.foldl_cons]
   have ih := hi_ge l (hiS a x)
   have h1 : a ≤ hiS a x ∧ x.worn ≤ hiS a x := by unfold hiS; split <;> omega
   refine ⟨by omega, fun b hb => ?_⟩
   rcases List.mem_cons.1 hb with rfl | hb
   · omega
   · exact ih.2 b hb
theorem wLo_le {f : List Bk} {b : Bk} (hb : b ∈ f) : wLo f ≤ b.worn := (lo_le f 200).2 b hb
theorem le_wHi {f : List Bk} {b : Bk} (hb : b ∈ f) : b.worn ≤ wHi f := (hi_ge f 0).2 b hb
theorem flash_ne {f : List Bk} (h : flashOk f = true) : ∃ b, b ∈ f := by
 have := (flash_four h).1
 cases f with
 | nil => simp at this
 | cons b f => exact ⟨b, List.mem_cons_self ..⟩
theorem spread_ge {f : List Bk} (h : flashOk f = true) : 0 ≤ wHi f - wLo f := by
 obtain ⟨b, hb⟩ := flash_ne h
 have := wLo_le hb
 have := le_wHi hb
 omega
theorem hi_sum : ∀ (l : List Bk) (a s : Int), a ≤ s → 0 ≤ s → (∀ b ∈ l, 0 ≤ b.worn) → l.foldl hiS a ≤ l.foldl (fun a b => a + b.worn) s
 | [], a, s, h, _, _ => h
 | x :: l, a, s, h, h0, hw => by
   rw [List.foldl_cons, List.foldl_cons]
   have hx := hw x (by simp)
   refine hi_sum l _ _ ?_ (by omega) fun b hb => hw b (by simp [hb])
   unfold hiS; split <;> omega
theorem spread_sum {f : List Bk} (h : flashOk f = true) : wHi f - wLo f ≤ wSum f := by
 have h1 := hi_sum f 0 0 (Int.le_refl _) (Int.le_refl _) fun b hb => ((flash_four h).2 b hb).2.1
 have h2 := (wLo_ge h).1
 have : wHi f ≤ wSum f := h1
 omega
theorem wTorn_nn {f : List Bk} (h : flashOk f = true) : 0 ≤ wTorn f := by
 have := (wTorn_small h (k := f.length)).1
 rwa [List.take_of_length_le (Nat.le_refl _)] at this
theorem law_FnWearSum {W : World} (A0 : Option Addr) (bs : List Nat) (c : Nat) (hc : Code W A0 bs c) (hl : Lain W A0) :
 Fine Try.prog (fun v w' => v = .bool true ∧ Bel W w') (fun _ => False) (G (Frame.enter Try.prog 5 #[.slice A0 bs.length c] .normal) []) W := by
 obtain ⟨Gd, A, co, hv, hC⟩ := start_co hc hl
 rw [enter_at _ Try.func5 rfl]
 walk_nrmf Try.f5
 refine f_ctl rfl (fun w => stepG_seq) ?_
 refine f_ctl rfl (fun w => stepG_region) ?_
 simp only [List.size_toArray, List.length_cons, List.length_nil, Nat.reduceAdd, Nat.zero_add, List.range, List.range.loop]
 refine f_val (F := fun _ => True) (fun _ _ _ _ => trivial) trivial rfl rfl (by k_ne) (fun w hw => ⟨run_eq_of (fun K hK => by skip; go_simp; exact hK), by skip; rw [listed_nil (by simp [go_sem, ev_min2, ev_max2, *])]; simp⟩) ?_
 walk_nrm
 refine f_ctl rfl (fun w => stepG_region_end) ?_
 refine f_ctl rfl (fun w => stepG_seq) ?_
 refine f_ctl rfl (fun w => stepG_seq) ?_
 refine f_ctl rfl (fun w => stepG_region) ?_
 simp only [List.size_toArray, List.length_cons, List.length_nil, Nat.reduceAdd, Nat.zero_add, List.range, List.range.loop]
 refine f_val (F := fun _ => True) (fun _ _ _ _ => trivial) trivial rfl rfl (by k_ne) (fun w hw => ⟨run_eq_of (fun K hK => by skip; go_simp; exact hK), by skip; rw [listed_nil (by simp [go_sem, ev_min2, ev_max2, *])]; simp⟩) ?_
 walk_nrm
 refine f_val (F := fun _ => True) (fun _ _ _ _ => trivial) trivial rfl rfl (by k_ne) (fun w hw => ⟨run_eq_of (fun K hK => by skip; go_simp; exact hK), by skip; rw [listed_nil (by simp [go_sem, ev_min2, ev_max2, *])]; simp⟩) ?_
 walk_nrm
 by_cases hlen : (1048576 : Int) < bs.length
 · clear co hv hC
   refine f_val (v := .bool true) (F := fun _ => True) (fun _ _ _ _ => trivial) trivial rfl rfl (by k_ne) (fun w hw => ⟨run_eq_of (fun K hK => by have h9 := hlen; go_simp; exact hK), by have h9 := hlen; rw [listed_nil (by simp [go_sem, ev_min2, ev_max2, *])]; simp⟩) ?_
   walk_nrm
   refine f_ctl rfl (fun w => stepG_region_end) ?_
   refine f_ctl rfl (fun w => stepG_cond (t := true) (by simp [Act.eval])) ?_
   simp only [if_true, Bool.false_eq_true, if_false]
   refine f_ctl rfl (fun w => stepG_seq) ?_
   refine f_ctl rfl (fun w => stepG_region) ?_
   simp only [List.size_toArray, List.length_cons, List.length_nil, Nat.reduceAdd, Nat.zero_add, List.range, List.range.loop]
   refine f_val (F := fun _ => True) (fun _ _ _ _ => trivial) trivial rfl rfl (by k_ne) (fun w hw => ⟨run_eq_of (fun K hK => by skip; go_simp; exact hK), by skip; rw [listed_nil (by simp [go_sem, ev_min2, ev_max2, *])]; simp⟩) ?_
   walk_nrm
   refine f_ctl rfl (fun w => stepG_region_end) ?_
   refine f_ctl rfl (fun w => stepG_ret') ?_
   refine Fine.fin (A := fun _ => False) (T := fun _ _ => 0) (d := 0) rfl rfl rfl Try.func5 (by kernel_rfl) (v := .bool true) (fun w _ => ?_) (fun w _ e he => ?_) (fun T d => ⟨rfl, Bel.tp _ T d⟩)
   · simp [results, Try.f5, go_sem, Frame.at]
   · rw [show (results Try.f5 _).events Try.prog w #[] = #[] by simp [results, Try.f5, go_sem, Frame.at]] at he
     simp at he
 · have hlen2 : ¬ (1048576 : Int) < bs.length := hlen
   refine f_val (v := .bool false) (F := fun _ => True) (fun _ _ _ _ => trivial) trivial rfl rfl (by k_ne) (fun w hw => ⟨run_eq_of (fun K hK => by have h9 := hlen; go_simp; exact hK), by have h9 := hlen; rw [listed_nil (by simp [go_sem, ev_min2, ev_max2, *])]; simp⟩) ?_
   walk_nrm
   refine f_ctl rfl (fun w => stepG_region_end) ?_
   refine f_ctl rfl (fun w => stepG_cond (t := false) (by simp [Act.eval])) ?_
   simp only [if_true, Bool.false_eq_true, if_false]
   refine f_ctl rfl (fun w => stepG_skip) ?_
   refine f_ctl rfl (fun w => stepG_seq) ?_
   refine f_ctl rfl (fun w => stepG_region) ?_
   simp only [List.size_toArray, List.length_cons, List.length_nil, Nat.reduceAdd, Nat.zero_add, List.range, List.range.loop]
   refine f_val (F := fun _ => True) (fun _ _ _ _ => trivial) trivial rfl rfl (by k_ne) (fun w hw => ⟨run_eq_of (fun K hK => by skip; go_simp; exact hK), by skip; rw [listed_nil (by simp [go_sem, ev_min2, ev_max2, *])]; simp⟩) ?_
   walk_nrm
   refine f_enter rfl rfl (by k_ne) rfl Try.func18 rfl rfl ?_
   walk_nrm
   refine Co.call co (R := fun v w' => ∃ (g o d : Nat) (f : List Bk), v = .slice (some ⟨g, o, none⟩) f.length d ∧ flSmall f ∧ Fl w' (some ⟨g, o, none⟩) f) (fun v w T d ⟨g, o, c, f, h1, h2, h3⟩ => ⟨g, o, c, f, h1, h2, h3.bel (Bel.pt w T d)⟩) (by kernel_rfl) (fun v hx => by simp at hx; subst hx; exact hv) (fun T d => (spec_DrawWearSpread A0 bs c (Go.Proofs.Ytclnogfmmekooaa.tp (cutW (good Gd) W) T d) (hC.tp T d)).mono fun e w' ⟨g, o, d, f, h1, h2, h3, h4⟩ => ⟨_, h1, ⟨g, o, d, f, rfl, h2, h3.fl⟩, h4⟩) ?_
   clear co hv
   rintro A v w hA co _ hv_f ⟨g, off, d, f, rfl, hsm, hf_f⟩
   clear hA
   rw [Frame.finish_at]
   walk_nrm
   have hln := Lib.hid (small_len4 hsm)
   replace hln := hln.out
   refine f_val (F := fun _ => True) (fun _ _ _ _ => trivial) trivial rfl rfl (by k_ne) (fun w hw => ⟨run_eq_of (fun K hK => by skip; go_simp; exact hK), by skip; rw [listed_nil (by simp [go_sem, ev_min2, ev_max2, *])]; simp⟩) ?_
   walk_nrm
   refine f_ctl rfl (fun w => stepG_region_end) ?_
   refine f_ctl rfl (fun w => stepG_seq) ?_
   refine f_ctl rfl (fun w => stepG_region) ?_
   simp only [List.size_toArray, List.length_cons, List.length_nil, Nat.reduceAdd, Nat.zero_add, List.range, List.range.loop]
   refine f_val (F := fun _ => True) (fun _ _ _ _ => trivial) trivial rfl rfl (by k_ne) (fun w hw => ⟨run_eq_of (fun K hK => by skip; go_simp; exact hK), by skip; rw [listed_nil (by simp [go_sem, ev_min2, ev_max2, *])]; simp⟩) ?_
   walk_nrm
   refine f_enter rfl rfl (by k_ne) rfl Try.func14 rfl rfl ?_
   walk_nrm
   refine Co.wearSpread co hv_f hf_f ?_
   clear co
   intro w SB A hA co hb
   replace hv_f := hv_f.mono hA
   replace hf_f := hf_f.bel hb.cut
   clear hb hA
   rw [Frame.finish_at]
   walk_nrm
   refine f_val (F := fun _ => True) (fun _ _ _ _ => trivial) trivial rfl rfl (by k_ne) (fun w hw => ⟨run_eq_of (fun K hK => by skip; go_simp; exact hK), by skip; rw [listed_nil (by simp [go_sem, ev_min2, ev_max2, *])]; simp⟩) ?_
   walk_nrm
   refine f_ctl rfl (fun w => stepG_region_end) ?_
   refine f_ctl rfl (fun w => stepG_seq) ?_
   refine f_ctl rfl (fun w => stepG_seq) ?_
   refine f_ctl rfl (fun w => stepG_region) ?_
   simp only [List.size_toArray, List.length_cons, List.length_nil, Nat.reduceAdd, Nat.zero_add, List.range, List.range.loop]
   refine f_val (F := fun _ => True) (fun _ _ _ _ => trivial) trivial rfl rfl (by k_ne) (fun w hw => ⟨run_eq_of (fun K hK => by skip; go_simp; exact hK), by skip; rw [listed_nil (by simp [go_sem, ev_min2, ev_max2, *])]; simp⟩) ?_
   walk_nrm
   refine f_val (F := fun _ => True) (fun _ _ _ _ => trivial) trivial rfl rfl (by k_ne) (fun w hw => ⟨run_eq_of (fun K hK => by skip; go_simp; exact hK), by skip; rw [listed_nil (by simp [go_sem, ev_min2, ev_max2, *])]; simp⟩) ?_
   walk_nrm
   refine f_enter rfl rfl (by k_ne) rfl Try.func12 rfl rfl ?_
   walk_nrm
   refine Co.call co (R := fun v _ => v = .int .i64 (if flashOk f then wHi f - wLo f else -1)) (fun _ _ _ _ h => h) (by kernel_rfl) (fun v hx => by simp at hx; subst hx; exact hv_f) (fun T d' => (spec_WearSpread f (some ⟨g, off, none⟩) d (Go.Proofs.Ytclnogfmmekooaa.tp (cutW (good Gd) w) T d') hln (hf_f.bel (Bel.tp _ T d'))).mono fun e w' ⟨h1, h2⟩ => ⟨_, h1, rfl, h2⟩) ?_
   clear co
   intro A v w hA co hb _ hv1
   subst hv1
   replace hv_f := hv_f.mono hA
   replace hf_f := hf_f.bel hb.cut
   clear hb hA
   rw [Frame.finish_at]
   walk_nrm
   refine f_val (v := .bool false) (F := fun _ => True) (fun _ _ _ _ => trivial) trivial rfl rfl (by k_ne) (fun w hw => ⟨run_eq_of (fun K hK => by skip; go_simp; exact hK), by skip; rw [listed_nil (by simp [go_sem, ev_min2, ev_max2, *])]; simp⟩) ?_
   walk_nrm
   refine f_ctl rfl (fun w => stepG_region_end) ?_
   refine f_ctl rfl (fun w => stepG_cond (t := false) (by simp [Act.eval])) ?_
   simp only [if_true, Bool.false_eq_true, if_false]
   refine f_ctl rfl (fun w => stepG_skip) ?_
   refine f_ctl rfl (fun w => stepG_seq) ?_
   refine f_ctl rfl (fun w => stepG_seq) ?_
   refine f_ctl rfl (fun w => stepG_region) ?_
   simp only [List.size_toArray, List.length_cons, List.length_nil, Nat.reduceAdd, Nat.zero_add, List.range, List.range.loop]
   refine f_val (F := fun _ => True) (fun _ _ _ _ => trivial) trivial rfl rfl (by k_ne) (fun w hw => ⟨run_eq_of (fun K hK => by skip; go_simp; exact hK), by skip; rw [listed_nil (by simp [go_sem, ev_min2, ev_max2, *])]; simp⟩) ?_
   walk_nrm
   refine f_enter rfl rfl (by k_ne) rfl Try.func19 rfl rfl ?_
   walk_nrm
   refine Co.call co (R := fun v _ => v = .bool (flashOk f)) (fun _ _ _ _ h => h) (by kernel_rfl) (fun v hx => by simp at hx; subst hx; exact hv_f) (fun T d' => (spec_FlashOk f (some ⟨g, off, none⟩) d (Go.Proofs.Ytclnogfmmekooaa.tp (cutW (good Gd) w) T d') hln (hf_f.bel (Bel.tp _ T d'))).mono fun e w' ⟨h1, h2⟩ => ⟨_, h1, rfl, h2⟩) ?_
   clear co
   intro A v w hA co hb _ hv1
   subst hv1
   replace hv_f := hv_f.mono hA
   replace hf_f := hf_f.bel hb.cut
   clear hb hA
   rw [Frame.finish_at]
   walk_nrm
   refine f_val (F := fun _ => True) (fun _ _ _ _ => trivial) trivial rfl rfl (by k_ne) (fun w hw => ⟨run_eq_of (fun K hK => by skip; go_simp; exact hK), by skip; rw [listed_nil (by simp [go_sem, ev_min2, ev_max2, *])]; simp⟩) ?_
   walk_nrm
   refine f_ctl rfl (fun w => stepG_region_end) ?_
   cases hok : flashOk f with
   | false =>
     refine f_ctl rfl (fun w => stepG_cond (t := true) (by simp [Act.eval, hok])) ?_
     simp only [if_true, Bool.false_eq_true, if_false]
     refine f_ctl rfl (fun w => stepG_seq) ?_
     refine f_ctl rfl (fun w => stepG_region) ?_
     simp only [List.size_toArray, List.length_cons, List.length_nil, Nat.reduceAdd, Nat.zero_add, List.range, List.range.loop]
     refine f_val (F := fun _ => True) (fun _ _ _ _ => trivial) trivial rfl rfl (by k_ne) (fun w hw => ⟨run_eq_of (fun K hK => by skip; go_simp; exact hK), by skip; rw [listed_nil (by simp [go_sem, ev_min2, ev_max2, *])]; simp⟩) ?_
     walk_nrm
     refine f_val (v := .bool true) (F := fun _ => True) (fun _ _ _ _ => trivial) trivial rfl rfl (by k_ne) (fun w hw => ⟨run_eq_of (fun K hK => by have h9 := hok; go_simp; exact hK), by have h9 := hok; rw [listed_nil (by simp [go_sem, ev_min2, ev_max2, *])]; simp⟩) ?_
     walk_nrm
     refine f_val (F := fun _ => True) (fun _ _ _ _ => trivial) trivial rfl rfl (by k_ne) (fun w hw => ⟨run_eq_of (fun K hK => by skip; go_simp; exact hK), by skip; rw [listed_nil (by simp [go_sem, ev_min2, ev_max2, *])]; simp⟩) ?_
     walk_nrm
     refine f_val (F := fun _ => True) (fun _ _ _ _ => trivial) trivial rfl rfl (by k_ne) (fun w hw => ⟨run_eq_of (fun K hK => by skip; go_simp; exact hK), by skip; rw [listed_nil (by simp [go_sem, ev_min2, ev_max2, *])]; simp⟩) ?_
     walk_nrm
     refine f_enter rfl rfl (by k_ne) rfl Try.func20 rfl rfl ?_
     walk_nrm
     refine Co.wearAll co hv_f hf_f ?_
     clear co
     intro w SB A hA co hb
     replace hv_f := hv_f.mono hA
     replace hf_f := hf_f.bel hb.cut
     clear hb hA
     rw [Frame.finish_at]
     walk_nrm
     refine f_val (v := .bool true) (F := fun _ => True) (fun _ _ _ _ => trivial) trivial rfl rfl (by k_ne) (fun w hw => ⟨run_eq_of (fun K hK => by have h9 := hok; go_simp; exact hK), by have h9 := hok; rw [listed_nil (by simp [go_sem, ev_min2, ev_max2, *])]; simp⟩) ?_
     walk_nrm
     refine f_val (v := .bool true) (F := fun _ => True) (fun _ _ _ _ => trivial) trivial rfl rfl (by k_ne) (fun w hw => ⟨run_eq_of (fun K hK => by skip; go_simp; exact hK), by skip; rw [listed_nil (by simp [go_sem, ev_min2, ev_max2, *])]; simp⟩) ?_
     walk_nrm
     refine f_val (F := fun _ => True) (fun _ _ _ _ => trivial) trivial rfl rfl (by k_ne) (fun w hw => ⟨run_eq_of (fun K hK => by skip; go_simp; exact hK), by skip; rw [listed_nil (by simp [go_sem, ev_min2, ev_max2, *])]; simp⟩) ?_
     walk_nrm
     refine f_val (F := fun _ => True) (fun _ _ _ _ => trivial) trivial rfl rfl (by k_ne) (fun w hw => ⟨run_eq_of (fun K hK => by skip; go_simp; exact hK), by skip; rw [listed_nil (by simp [go_sem, ev_min2, ev_max2, *])]; simp⟩) ?_
     walk_nrm
     refine f_enter rfl rfl (by k_ne) rfl Try.func17 rfl rfl ?_
     walk_nrm
     refine Co.wearLost co hv_f hf_f ?_
     clear co
     intro w SB A hA co hb
     replace hv_f := hv_f.mono hA
     replace hf_f := hf_f.bel hb.cut
     clear hb hA
     rw [Frame.finish_at]
     walk_nrm
     refine f_val (v := .bool true) (F := fun _ => True) (fun _ _ _ _ => trivial) trivial rfl rfl (by k_ne) (fun w hw => ⟨run_eq_of (fun K hK => by have h9 := hok; go_simp; exact hK), by have h9 := hok; rw [listed_nil (by simp [go_sem, ev_min2, ev_max2, *])]; simp⟩) ?_
     walk_nrm
     refine f_val (v := .bool true) (F := fun _ => True) (fun _ _ _ _ => trivial) trivial rfl rfl (by k_ne) (fun w hw => ⟨run_eq_of (fun K hK => by skip; go_simp; exact hK), by skip; rw [listed_nil (by simp [go_sem, ev_min2, ev_max2, *])]; simp⟩) ?_
     walk_nrm
     refine f_val (F := fun _ => True) (fun _ _ _ _ => trivial) trivial rfl rfl (by k_ne) (fun w hw => ⟨run_eq_of (fun K hK => by skip; go_simp; exact hK), by skip; rw [listed_nil (by simp [go_sem, ev_min2, ev_max2, *])]; simp⟩) ?_
     walk_nrm
     refine f_ctl rfl (fun w => stepG_region_end) ?_
     refine f_ctl rfl (fun w => stepG_ret') ?_
     refine Fine.fin (A := fun _ => False) (T := fun _ _ => 0) (d := 0) rfl rfl rfl Try.func5 (by kernel_rfl) (v := .bool true) (fun w _ => ?_) (fun w _ e he => ?_) (fun T d => ⟨rfl, co.bel.trans (Bel.tp _ T d)⟩)
     · simp [results, Try.f5, go_sem, Frame.at]
     · rw [show (results Try.f5 _).events Try.prog w #[] = #[] by simp [results, Try.f5, go_sem, Frame.at]] at he
       simp at he
   | true =>
     have hge := spread_ge hok
     have hge2 : wLo f ≤ wHi f := by omega
     have hsum := spread_sum hok
     have htn := wTorn_nn hok
     refine f_ctl rfl (fun w => stepG_cond (t := false) (by simp [Act.eval, hok])) ?_
     simp only [if_true, Bool.false_eq_true, if_false]
     refine f_ctl rfl (fun w => stepG_skip) ?_
     refine f_ctl rfl (fun w => stepG_seq) ?_
     refine f_ctl rfl (fun w => stepG_region) ?_
     simp only [List.size_toArray, List.length_cons, List.length_nil, Nat.reduceAdd, Nat.zero_add, List.range, List.range.loop]
     refine f_val (F := fun _ => True) (fun _ _ _ _ => trivial) trivial rfl rfl (by k_ne) (fun w hw => ⟨run_eq_of (fun K hK => by skip; go_simp; exact hK), by skip; rw [listed_nil (by simp [go_sem, ev_min2, ev_max2, *])]; simp⟩) ?_
     walk_nrm
     refine f_val (v := .bool true) (F := fun _ => True) (fun _ _ _ _ => trivial) trivial rfl rfl (by k_ne) (fun w hw => ⟨run_eq_of (fun K hK => by have h9 := hok; have h8 := hge; have h7 := hge2; go_simp; exact hK), by have h9 := hok; have h8 := hge; have h7 := hge2; rw [listed_nil (by simp [go_sem, ev_min2, ev_max2, *])]; simp⟩) ?_
     walk_nrm
     refine f_val (F := fun _ => True) (fun _ _ _ _ => trivial) trivial rfl rfl (by k_ne) (fun w hw => ⟨run_eq_of (fun K hK => by skip; go_simp; exact hK), by skip; rw [listed_nil (by simp [go_sem, ev_min2, ev_max2, *])]; simp⟩) ?_
     walk_nrm
     refine f_val (F := fun _ => True) (fun _ _ _ _ => trivial) trivial rfl rfl (by k_ne) (fun w hw => ⟨run_eq_of (fun K hK => by skip; go_simp; exact hK), by skip; rw [listed_nil (by simp [go_sem, ev_min2, ev_max2, *])]; simp⟩) ?_
     walk_nrm
     refine f_enter rfl rfl (by k_ne) rfl Try.func20 rfl rfl ?_
     walk_nrm
     refine Co.wearAll co hv_f hf_f ?_
     clear co
     intro w SB A hA co hb
     replace hv_f := hv_f.mono hA
     replace hf_f := hf_f.bel hb.cut
     clear hb hA
     rw [Frame.finish_at]
     walk_nrm
     refine f_val (F := fun _ => True) (fun _ _ _ _ => trivial) trivial rfl rfl (by k_ne) (fun w hw => ⟨run_eq_of (fun K hK => by skip; go_simp; exact hK), by skip; rw [listed_nil (by simp [go_sem, ev_min2, ev_max2, *])]; simp⟩) ?_
     walk_nrm
     refine f_val (v := .bool true) (F := fun _ => True) (fun _ _ _ _ => trivial) trivial rfl rfl (by k_ne) (fun w hw => ⟨run_eq_of (fun K hK => by have h9 := hok; have h8 := hsum; go_simp; exact hK), by have h9 := hok; have h8 := hsum; rw [listed_nil (by simp [go_sem, ev_min2, ev_max2, *])]; simp⟩) ?_
     walk_nrm
     refine f_val (v := .bool true) (F := fun _ => True) (fun _ _ _ _ => trivial) trivial rfl rfl (by k_ne) (fun w hw => ⟨run_eq_of (fun K hK => by skip; go_simp; exact hK), by skip; rw [listed_nil (by simp [go_sem, ev_min2, ev_max2, *])]; simp⟩) ?_
     walk_nrm
     refine f_val (F := fun _ => True) (fun _ _ _ _ => trivial) trivial rfl rfl (by k_ne) (fun w hw => ⟨run_eq_of (fun K hK => by skip; go_simp; exact hK), by skip; rw [listed_nil (by simp [go_sem, ev_min2, ev_max2, *])]; simp⟩) ?_
     walk_nrm
     refine f_val (F := fun _ => True) (fun _ _ _ _ => trivial) trivial rfl rfl (by k_ne) (fun w hw => ⟨run_eq_of (fun K hK => by skip; go_simp; exact hK), by skip; rw [listed_nil (by simp [go_sem, ev_min2, ev_max2, *])]; simp⟩) ?_
     walk_nrm
     refine f_enter rfl rfl (by k_ne) rfl Try.func17 rfl rfl ?_
     walk_nrm
     refine Co.wearLost co hv_f hf_f ?_
     clear co
     intro w SB A hA co hb
     replace hv_f := hv_f.mono hA
     replace hf_f := hf_f.bel hb.cut
     clear hb hA
     rw [Frame.finish_at]
     walk_nrm
     refine f_val (v := .bool true) (F := fun _ => True) (fun _ _ _ _ => trivial) trivial rfl rfl (by k_ne) (fun w hw => ⟨run_eq_of (fun K hK => by have h9 := hok; have h8 := htn; go_simp; exact hK), by have h9 := hok; have h8 := htn; rw [listed_nil (by simp [go_sem, ev_min2, ev_max2, *])]; simp⟩) ?_
     walk_nrm
     refine f_val (v := .bool true) (F := fun _ => True) (fun _ _ _ _ => trivial) trivial rfl rfl (by k_ne) (fun w hw => ⟨run_eq_of (fun K hK => by skip; go_simp; exact hK), by skip; rw [listed_nil (by simp [go_sem, ev_min2, ev_max2, *])]; simp⟩) ?_
     walk_nrm
     refine f_val (F := fun _ => True) (fun _ _ _ _ => trivial) trivial rfl rfl (by k_ne) (fun w hw => ⟨run_eq_of (fun K hK => by skip; go_simp; exact hK), by skip; rw [listed_nil (by simp [go_sem, ev_min2, ev_max2, *])]; simp⟩) ?_
     walk_nrm
     refine f_ctl rfl (fun w => stepG_region_end) ?_
     refine f_ctl rfl (fun w => stepG_ret') ?_
     refine Fine.fin (A := fun _ => False) (T := fun _ _ => 0) (d := 0) rfl rfl rfl Try.func5 (by kernel_rfl) (v := .bool true) (fun w _ => ?_) (fun w _ e he => ?_) (fun T d => ⟨rfl, co.bel.trans (Bel.tp _ T d)⟩)
     · simp [results, Try.f5, go_sem, Frame.at]
     · rw [show (results Try.f5 _).events Try.prog w #[] = #[] by simp [results, Try.f5, go_sem, Frame.at]] at he
       simp at he
end Go.Proofs.Ytclnogfmmekooaa
