/- FnExactPlaySteps: for every input the law returns true, and its arguments read as they did. -/
import Derived.Test.YtbekihiiildgmaaRows
import Derived.Test.YtbekihiiildgmaaV6
import Derived.Test.YtbekihiiildgmaaRFnExactPlaySteps
import Derived.ProofKit
import Derived.OpenShut
namespace Go.Proofs.Ytbekihiiildgmaa.fnExactPlaySteps
set_option linter.unusedVariables false
set_option linter.unusedSimpArgs false
open Go.ChangeShapes Go.WideShapes Go.ChangeAt Go.RowKit
set_option linter.unusedVariables false
theorem own : ownKnob Try.prog.godebug = none := by kernel_rfl
theorem laid : laidOutB Try.prog = true := by kernel_rfl
set_option maxRecDepth 100000 in
theorem lifted (os : Os) (started : os.Started) (H : Type) (enc : TypeId × Value → H) :
    ReturnsInHanded {} Try.checked os 14 .any (Rows.fnExactPlayStepsSpec.pre6 enc Try.prog Try.f14 Rows.fnExactPlayStepsRow.domain false) (Rows.fnExactPlayStepsSpec.post enc Try.prog Try.f14 false true false false) := by
  refine returnsInHanded_of_change (C := Try.checked) own started (by kernel_rfl) Try.func14
    (ChangeSpec.witness6 (enc := enc) (C := Try.checked) false ⟨#[], #[.agg #[.slice none 0 0, .slice none 0 0], .agg #[.int .i64 0, .int .i64 0, .int .i64 0, .int .i64 0, .bool false]], []⟩ 8 (by kernel_rfl) (by kernel_rfl) (by kernel_rfl) (by kernel_rfl)) ?_
  intro W base args ds gs before hval0 hW hcnd _
  have hval : ∀ (j : Nat) t v, Try.f14.params[j]? = some t → args[j]? = some v → Value.okWide Try.prog W .any base t v := hval0
  have hW' := hW
  obtain ⟨p, q, hA0, hV, rfl, hfz, hnd⟩ := hW
  have hA : DataW.TrodAll enc Try.prog W 0 (fun _ => true) true Try.f14.params.toList args.toList ds p := hA0
  rw [Try.params14] at hA hval
  obtain ⟨v0, v1, d0, d1, p0, p1, rfl, rfl, rfl, h0, h1⟩ := trodAll_two hA
  obtain ⟨rfl, rfl⟩ := trodVars_none hV
  have k0 := h0
  have k1 := h1
  have hlt0 : ∀ x ∈ p0 ++ p1, x.block < W.heap.size := fun x hx => hW'.lt x (List.mem_append_left _ hx)
  obtain ⟨cs0, rfl, _⟩ := okWide_struct Try.underlying63 (hval 0 _ v0 rfl rfl)
  obtain ⟨cs1, rfl, _⟩ := okWide_struct Try.underlying72 (hval 1 _ v1 rfl rfl)
  obtain ⟨fu0, hf0⟩ := h0
  obtain ⟨fu1, hf1⟩ := h1
  obtain ⟨s, hs, A, D, c, d, e0, hl0, hp0, hl1, hF, hD⟩ := store_of hf0
  obtain ⟨k, a, v, cc, tt, e1⟩ := event_of hf1
  obtain ⟨cs0⟩ := cs0
  obtain ⟨cs1⟩ := cs1
  simp only [Value.cells] at e0 e1
  subst e0; subst e1
  clear hA0 hval0
  simp only [List.append_nil] at hW'
  refine (law_FnExactPlaySteps A D c d s hs (Nat.le_trans hl0 (by decide)) (fun b hb => Nat.le_trans (hp0 b hb) (by decide)) (Nat.le_trans hl1 (by decide)) hF hD k a v cc tt).mono fun e W' ⟨he, hg⟩ => ?_
  subst he
  refine ⟨_, rfl, post_of_below (pa := p0 ++ (p1 ++ [])) (pv := []) hW' (fun _ _ _ => (trodAll_cons_mk (shut_bool Try.underlying4 _) trodAll_mk0)) (fun sp hsp => ?_) (fun _ _ => rfl) (by simp)
    hg (ok_one (by kernel_rfl) rfl (okWide_bool_mk Try.underlying4 _))⟩
  exact (trodAll_cons_mk (trod_kept laid (by kernel_rfl) (of_decide_eq_true (by kernel_rfl)) k0 hg hlt0 hsp (by intro x hx; simp only [List.mem_append]; simp [hx])) (trodAll_cons_mk (trod_kept laid (by kernel_rfl) (of_decide_eq_true (by kernel_rfl)) k1 hg hlt0 hsp (by intro x hx; simp only [List.mem_append]; simp [hx])) trodAll_mk0))
theorem over : Rows.fnExactPlayStepsRow.holds Try.pinned (OpenSpec.ofChange Rows.fnExactPlayStepsSpec) :=
  OpenClaim.holds_of_wide 14 Try.f14 rfl rfl rfl rfl rfl rfl rfl ⟨rfl, rfl, rfl, rfl, rfl⟩ rfl rfl rfl rfl rfl (by kernel_rfl) Try.func14 (by kernel_rfl)
    (of_decide_eq_true (by kernel_rfl)) (by unfold Func.isWrapper; first | (rw [if_pos (by decide +kernel)]; kernel_rfl) | (rw [if_neg (by decide +kernel)]; exact ⟨rfl, rfl⟩))
    (fun os started H enc _ => lifted os started H enc)
theorem proved : Rows.FnExactPlayStepsSaid :=
  over
end Go.Proofs.Ytbekihiiildgmaa.fnExactPlaySteps
