/- FnLostWipe: for every input the law returns true, and its arguments read as they did. -/
import Derived.Test.YtclnogfmmekooaaRows
import Derived.Test.YtclnogfmmekooaaZ8
import Derived.Test.YtclnogfmmekooaaV17
import Derived.ProofKit
import Derived.OpenShut
namespace Go.Proofs.Ytclnogfmmekooaa.fnLostWipe
set_option linter.unusedVariables false
set_option linter.unusedSimpArgs false
open Go.ChangeShapes Go.WideShapes Go.ChangeAt Go.RowKit Go.Conc
set_option linter.unusedVariables false
theorem own : ownKnob Try.prog.godebug = none := by kernel_rfl
theorem laid : laidOutB Try.prog = true := by kernel_rfl
set_option maxRecDepth 100000 in
theorem lifted (os : Os) (started : os.Started) (H : Type) (enc : TypeId × Value → H) :
 ReturnsInLeavingWide {} Try.checked os 8 .any (Rows.fnLostWipeSpec.pre6 enc Try.prog Try.f8 Rows.fnLostWipeRow.domain false) (Rows.fnLostWipeSpec.post enc Try.prog Try.f8 false true false false) := by
 refine leaving_of (C := Try.checked) own started Try.func8
  (ChangeSpec.witness6 (enc := enc) (C := Try.checked) false ⟨#[], #[.slice none 0 0, .slice none 0 0], []⟩ 8 (by kernel_rfl) (by kernel_rfl) (by kernel_rfl) (by kernel_rfl)) ?_
 intro W base args ds gs before hval0 hW
 have hval : ∀ (j : Nat) t v, Try.f8.params[j]? = some t → args[j]? = some v → Value.okWide Try.prog W .any base t v := hval0
 have hW' := hW
 obtain ⟨p, q, hA0, hV, rfl, hfz, hnd⟩ := hW
 have hA : DataW.TrodAll enc Try.prog W 0 (fun _ => true) true Try.f8.params.toList args.toList ds p := hA0
 rw [Try.params8] at hA hval
 obtain ⟨v0, v1, d0, d1, p0, p1, rfl, rfl, rfl, h0, h1⟩ := trodAll_two hA
 obtain ⟨rfl, rfl⟩ := trodVars_none hV
 have k0 := h0
 have k1 := h1
 have hlt0 : ∀ x ∈ p0 ++ p1, x.block < W.heap.size := fun x hx => hW'.lt x (List.mem_append_left _ hx)
 obtain ⟨a0, l0, c0, rfl⟩ := okWide_slice Try.underlying29 (hval 0 _ v0 rfl rfl)
 obtain ⟨fu0, hf0⟩ := h0
 obtain ⟨A0, C0, bs0, e0, hC0⟩ := bytes_of hf0
 simp only [Value.cells, List.cons.injEq, Value.slice.injEq, and_true] at e0
 obtain ⟨rfl, rfl, rfl⟩ := e0
 obtain ⟨a1, l1, c1, rfl⟩ := okWide_slice Try.underlying29 (hval 1 _ v1 rfl rfl)
 obtain ⟨fu1, hf1⟩ := h1
 obtain ⟨A1, C1, bs1, e1, hC1⟩ := bytes_of hf1
 simp only [Value.cells, List.cons.injEq, Value.slice.injEq, and_true] at e1
 obtain ⟨rfl, rfl, rfl⟩ := e1
 clear hA0 hval0
 simp only [List.append_nil] at hW'
 obtain ⟨M, last, o, W', t', g1, g2, g3, g4⟩ := run_of_fine (law_FnLostWipe a0 bs0 c0 hC0 (okWide_lain Try.underlying29 (hval 0 _ _ rfl rfl)) a1 bs1 c1 hC1 (okWide_lain Try.underlying29 (hval 1 _ _ rfl rfl)))
 refine ⟨M, last, o, W', t', g1, g2, g3, g4.mono fun v ⟨he, hg0⟩ => ?_⟩
 subst he
 have hg := hg0.bl
 refine post_of_below (pa := p0 ++ (p1 ++ [])) (pv := []) hW' (fun _ _ _ => (trodAll_cons_mk (shut_bool Try.underlying4 _) trodAll_mk0)) (fun sp hsp => ?_) (fun _ _ => rfl) (by simp)
  hg (ok_one (by kernel_rfl) rfl (okWide_bool_mk Try.underlying4 _))
 exact (trodAll_cons_mk (trod_kept laid (by kernel_rfl) (of_decide_eq_true (by kernel_rfl)) k0 hg hlt0 hsp (by intro x hx; simp only [List.mem_append]; simp [hx])) (trodAll_cons_mk (trod_kept laid (by kernel_rfl) (of_decide_eq_true (by kernel_rfl)) k1 hg hlt0 hsp (by intro x hx; simp only [List.mem_append]; simp [hx])) trodAll_mk0))
theorem over : Rows.fnLostWipeRow.holds Try.pinned (OpenSpec.ofChange Rows.fnLostWipeSpec) :=
 OpenClaim.holds_of_wide_leaving 8 Try.f8 rfl rfl rfl rfl rfl rfl rfl ⟨rfl, rfl, rfl, rfl, rfl⟩ rfl rfl rfl rfl rfl (by kernel_rfl) Try.func8 (by kernel_rfl)
  (of_decide_eq_true (by kernel_rfl)) (by unfold Func.isWrapper; first | (rw [if_pos (by decide +kernel)]; kernel_rfl) | (rw [if_neg (by decide +kernel)]; exact ⟨rfl, rfl⟩))
  (fun os started H enc _ => lifted os started H enc)
theorem proved : Rows.FnLostWipeSaid :=
 over
end Go.Proofs.Ytclnogfmmekooaa.fnLostWipe
