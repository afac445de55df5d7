/- FnExactStepsTo: for every input the law returns true, and its arguments read as they did. -/
import Derived.Test.YtbekihiiildgmaaRows
import Derived.Test.YtbekihiiildgmaaU6
import Derived.Test.YtbekihiiildgmaaRFnExactStepsTo
import Derived.Carry
import Derived.ProofKit
import Derived.OpenShut
namespace Go.Proofs.Ytbekihiiildgmaa.fnExactStepsTo
set_option linter.unusedVariables false
set_option linter.unusedSimpArgs false
open Go.ChangeShapes Go.WideShapes Go.ChangeAt Go.RowKit
set_option linter.unusedVariables false
theorem own : ownKnob Try.prog.godebug = none := by kernel_rfl
theorem laid : laidOutB Try.prog = true := by kernel_rfl
set_option maxRecDepth 100000 in
theorem lifted (os : Os) (started : os.Started) (H : Type) (enc : TypeId × Value → H) :
    ReturnsInHanded {} Try.checked os 13 .any (Rows.fnExactStepsToSpec.pre6 enc Try.prog Try.f13 Rows.fnExactStepsToRow.domain false) (Rows.fnExactStepsToSpec.post enc Try.prog Try.f13 false true false false) := by
  refine returnsInHanded_of_change (C := Try.checked) own started (by kernel_rfl) Try.func13
    (ChangeSpec.witness6 (enc := enc) (C := Try.checked) false ⟨#[], #[.agg #[.slice none 0 0, .slice none 0 0], .slice none 0 0, .int .i64 0, .bool false], []⟩ 8 (by kernel_rfl) (by kernel_rfl) (by kernel_rfl) (by kernel_rfl)) ?_
  intro W base args ds gs before hval0 hW hcnd _
  have hval : ∀ (j : Nat) t v, Try.f13.params[j]? = some t → args[j]? = some v → Value.okWide Try.prog W .any base t v := hval0
  have hW' := hW
  obtain ⟨p, q, hA0, hV, rfl, hfz, hnd⟩ := hW
  have hA : DataW.TrodAll enc Try.prog W 0 (fun _ => true) true Try.f13.params.toList args.toList ds p := hA0
  rw [Try.params13] at hA hval
  obtain ⟨v0, v1, v2, v3, d0, d1, d2, d3, p0, p1, p2, p3, rfl, rfl, rfl, h0, h1, h2, h3⟩ := trodAll_four hA
  obtain ⟨rfl, rfl⟩ := trodVars_none hV
  have k0 := h0
  have k1 := h1
  have k2 := h2
  have k3 := h3
  have hlt0 : ∀ x ∈ p0 ++ p1 ++ p2 ++ p3, x.block < W.heap.size := fun x hx => hW'.lt x (List.mem_append_left _ hx)
  obtain ⟨cs0, rfl, _⟩ := okWide_struct Try.underlying63 (hval 0 _ v0 rfl rfl)
  obtain ⟨a1, l1, c1, rfl⟩ := okWide_slice Try.underlying64 (hval 1 _ v1 rfl rfl)
  obtain ⟨fu0, hf0⟩ := h0
  obtain ⟨fu1, hf1⟩ := h1
  obtain ⟨s, hs, A, D, c, d, e0, hl0, hp0, hl1, hF, hD⟩ := store_of hf0
  obtain ⟨V, cs, xs, e1, hl2, hX⟩ := steps_of hf1
  obtain ⟨cs0⟩ := cs0
  simp only [Value.cells] at e0
  subst e0
  simp only [Value.cells, List.cons.injEq, Value.slice.injEq, and_true] at e1
  obtain ⟨rfl, rfl, rfl⟩ := e1
  obtain ⟨n2, rfl, _, _, _⟩ := open_int Try.underlying3 (hval 2 _ v2 rfl rfl) h2
  obtain ⟨b3, rfl, _, _⟩ := open_bool Try.underlying4 (hval 3 _ v3 rfl rfl) h3
  clear hA0 hval0
  simp only [List.append_nil] at hW'
  refine (law_FnExactStepsTo A D a1 c d c1 s xs hs (Nat.le_trans hl0 (by decide)) (fun b hb => Nat.le_trans (hp0 b hb) (by decide)) (Nat.le_trans hl1 (by decide)) (Nat.le_trans hl2 (by decide)) hF hD hX n2 b3).mono fun e W' ⟨he, hg⟩ => ?_
  subst he
  refine ⟨_, rfl, post_of_below (pa := p0 ++ (p1 ++ (p2 ++ (p3 ++ [])))) (pv := []) hW' (fun _ _ _ => (trodAll_cons_mk (shut_bool Try.underlying4 _) trodAll_mk0)) (fun sp hsp => ?_) (fun _ _ => rfl) (by simp)
    hg (ok_one (by kernel_rfl) rfl (okWide_bool_mk Try.underlying4 _))⟩
  exact (trodAll_cons_mk (trod_kept laid (by kernel_rfl) (of_decide_eq_true (by kernel_rfl)) k0 hg hlt0 hsp (by intro x hx; simp only [List.mem_append]; simp [hx])) (trodAll_cons_mk (trod_kept laid (by kernel_rfl) (of_decide_eq_true (by kernel_rfl)) k1 hg hlt0 hsp (by intro x hx; simp only [List.mem_append]; simp [hx])) (trodAll_cons_mk (trod_kept laid (by kernel_rfl) (of_decide_eq_true (by kernel_rfl)) k2 hg hlt0 hsp (by intro x hx; simp only [List.mem_append]; simp [hx])) (trodAll_cons_mk (trod_kept laid (by kernel_rfl) (of_decide_eq_true (by kernel_rfl)) k3 hg hlt0 hsp (by intro x hx; simp only [List.mem_append]; simp [hx])) trodAll_mk0))))
theorem over : Rows.fnExactStepsToRow.holds Try.pinned (OpenSpec.ofChange Rows.fnExactStepsToSpec) :=
  OpenClaim.holds_of_wide 13 Try.f13 rfl rfl rfl rfl rfl rfl rfl ⟨rfl, rfl, rfl, rfl, rfl⟩ rfl rfl rfl rfl rfl (by kernel_rfl) Try.func13 (by kernel_rfl)
    (of_decide_eq_true (by kernel_rfl)) (by unfold Func.isWrapper; first | (rw [if_pos (by decide +kernel)]; kernel_rfl) | (rw [if_neg (by decide +kernel)]; exact ⟨rfl, rfl⟩))
    (fun os started H enc _ => lifted os started H enc)
theorem proved : Rows.FnExactStepsToSaid :=
  over
end Go.Proofs.Ytbekihiiildgmaa.fnExactStepsTo
