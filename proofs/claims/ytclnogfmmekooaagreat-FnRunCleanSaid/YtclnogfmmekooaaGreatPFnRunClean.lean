/- Part of the law's proof: its walk, or its row. -/
import Derived.Test.YtclnogfmmekooaaGreatRows
import Derived.Test.YtclnogfmmekooaaGreatZ9
import Derived.Test.YtclnogfmmekooaaGreatV32
import Derived.ProofKit
import Derived.OpenShut
set_option linter.unusedVariables false
set_option linter.unusedSimpArgs false
set_option maxHeartbeats 16000000
set_option maxRecDepth 100000
namespace Go.Proofs.YtclnogfmmekooaaGreat.fnRunClean
open Go.ChangeShapes Go.WideShapes Go.ChangeAt Go.RowKit Go.Conc
theorem own : ownKnob Tryz.prog.godebug = none := by kernel_rfl
theorem laid : laidOutB Tryz.prog = true := by kernel_rfl
theorem zqg (os : Os) (started : os.Started) (H : Type) (enc : TypeId × Value -> H) :
 ReturnsInLeavingWide {} Tryz.checked os 3 .any (Rows.fnRunCleanSpec.pre6 enc Tryz.prog Tryz.f3 Rows.fnRunCleanRow.domain false) (Rows.fnRunCleanSpec.post enc Tryz.prog Tryz.f3 false true false false) := by
 refine zjm (C := Tryz.checked) own started Tryz.func3
  (ChangeSpec.witness6 (enc := enc) (C := Tryz.checked) false ⟨#[], #[.slice none 0 0], []⟩ 8 (by kernel_rfl) (by kernel_rfl) (by kernel_rfl) (by kernel_rfl)) ?_
 intro W base args ds gs before hval0 hW
 have hval : ∀ (j : Nat) t v, Tryz.f3.params[j]? = some t -> args[j]? = some v -> Value.okWide Tryz.prog W .any base t v := hval0
 have hW' := hW
 obtain ⟨p, q, hA0, hV, rfl, hfz, hnd⟩ := hW
 have hA : DataW.TrodAll enc Tryz.prog W 0 (fun _ => true) true Tryz.f3.params.toList args.toList ds p := hA0
 rw [Tryz.params3] at hA hval
 obtain ⟨v0, d0, rfl, rfl, h0⟩ := trodAll_one hA
 obtain ⟨rfl, rfl⟩ := trodVars_none hV
 have k0 := h0
 have hlt0 : ∀ x ∈ p, x.block < W.heap.size := fun x hx => hW'.lt x (List.mem_append_left _ hx)
 obtain ⟨a0, l0, c0, rfl⟩ := okWide_slice Tryz.underlying22 (hval 0 _ v0 rfl rfl)
 obtain ⟨fu0, hf0⟩ := h0
 obtain ⟨A0, C0, bs0, e0, hC0⟩ := zn8 hf0
 simp only [Value.cells, List.cons.injEq, Value.slice.injEq, and_true] at e0
 obtain ⟨rfl, rfl, rfl⟩ := e0
 clear hA0 hval0
 simp only [List.append_nil] at hW'
 obtain ⟨M, last, o, W', t', g1, g2, g3, g4⟩ := zgl (law_FnRunClean a0 bs0 c0 hC0 (zgs Tryz.underlying22 (hval 0 _ _ rfl rfl)))
 refine ⟨M, last, o, W', t', g1, g2, g3, g4.mono fun v ⟨he, hg0⟩ => ?_⟩
 subst he
 have hg := hg0.bl
 refine zc2 (pa := p ++ []) (pv := []) hW' (fun _ _ _ => (trodAll_cons_mk (shut_bool Tryz.underlying4 _) trodAll_mk0)) (fun sp hsp => ?_) (fun _ _ => rfl) (by simp)
  hg (ok_one (by kernel_rfl) rfl (okWide_bool_mk Tryz.underlying4 _))
 exact (trodAll_cons_mk (zkk laid (by kernel_rfl) (of_decide_eq_true (by kernel_rfl)) k0 hg hlt0 hsp (fun x hx => hx)) trodAll_mk0)
theorem over : Rows.fnRunCleanRow.holds Tryz.pinned (OpenSpec.ofChange Rows.fnRunCleanSpec) :=
 OpenClaim.holds_of_wide_leaving 3 Tryz.f3 rfl rfl rfl rfl rfl rfl rfl ⟨rfl, rfl, rfl, rfl, rfl⟩ rfl rfl rfl rfl rfl (by kernel_rfl) Tryz.func3 (by kernel_rfl)
  (of_decide_eq_true (by kernel_rfl)) (by unfold Func.isWrapper; first | (rw [if_pos (by decide +kernel)]; kernel_rfl) | (rw [if_neg (by decide +kernel)]; exact ⟨rfl, rfl⟩))
  (fun os started H enc _ => zqg os started H enc)
theorem proved : Rows.FnRunCleanSaid :=
 over
end Go.Proofs.YtclnogfmmekooaaGreat.fnRunClean
