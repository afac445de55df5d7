/- Part of the law's proof: its walk, or its row. -/
import Derived.Test.YtclnogfmmekooaaGreatRows
import Derived.Test.YtclnogfmmekooaaGreatY9
import Derived.Test.YtclnogfmmekooaaGreatV35
import Derived.ProofKit
import Derived.OpenShut
set_option linter.unusedVariables false
set_option linter.unusedSimpArgs false
set_option maxHeartbeats 16000000
set_option maxRecDepth 100000
namespace Go.Proofs.YtclnogfmmekooaaGreat.fnPutAgain
open Go.ChangeShapes Go.WideShapes Go.ChangeAt Go.RowKit Go.Conc
theorem own:ownKnob Tryz.prog.godebug = none:=by kernel_rfl
theorem laid:laidOutB Tryz.prog = true:=by kernel_rfl
theorem zqm (os:Os) (started:os.Started) (H:Type) (enc:TypeId × Value->H) :
 ReturnsInLeavingWide {} Tryz.checked os 4 .any (Rows.fnPutAgainSpec.pre6 enc Tryz.prog Tryz.f4 Rows.fnPutAgainRow.domain false) (Rows.fnPutAgainSpec.post enc Tryz.prog Tryz.f4 false true false false):=by
 refine zjw (C:=Tryz.checked) own started Tryz.func4
  (ChangeSpec.witness6 (enc:=enc) (C:=Tryz.checked) false ⟨#[],#[.slice none 0 0, .slice none 0 0],[]⟩ 8 (by kernel_rfl) (by kernel_rfl) (by kernel_rfl) (by kernel_rfl)) ?_
 intro W base args ds gs before hval0 hW;have hval:∀ (j:Nat) t v,Tryz.f4.params[j]? = some t->args[j]? = some v->Value.okWide Tryz.prog W .any base t v:=hval0;have hW':=hW;obtain ⟨p,q,hA0,hV,rfl,hfz,hnd⟩:=hW;have hA:DataW.TrodAll enc Tryz.prog W 0 (fun _=>true) true Tryz.f4.params.toList args.toList ds p:=hA0;rw [Tryz.params4] at hA hval;obtain ⟨v0,v1,d0,d1,p0,p1,rfl,rfl,rfl,h0,h1⟩:=trodAll_two hA;obtain ⟨rfl,rfl⟩:=trodVars_none hV;have k0:=h0;have k1:=h1;have hlt0:∀ x ∈ p0 ++ p1,x.block < W.heap.size:=fun x hx=>hW'.lt x (List.mem_append_left _ hx);obtain ⟨a0,l0,c0,rfl⟩:=okWide_slice Tryz.underlying22 (hval 0 _ v0 rfl rfl);obtain ⟨fu0,hf0⟩:=h0;obtain ⟨A0,C0,bs0,e0,hC0⟩:=ziv hf0;simp only [Value.cells,List.cons.injEq,Value.slice.injEq,and_true] at e0;obtain ⟨rfl,rfl,rfl⟩:=e0;obtain ⟨a1,l1,c1,rfl⟩:=okWide_slice Tryz.underlying22 (hval 1 _ v1 rfl rfl);obtain ⟨fu1,hf1⟩:=h1;obtain ⟨A1,C1,bs1,e1,hC1⟩:=ziv hf1;simp only [Value.cells,List.cons.injEq,Value.slice.injEq,and_true] at e1;obtain ⟨rfl,rfl,rfl⟩:=e1;clear hA0 hval0;simp only [List.append_nil] at hW';obtain ⟨M,last,o,W',t',g1,g2,g3,g4⟩:=zgy (law_FnPutAgain a0 bs0 c0 hC0 (zae Tryz.underlying22 (hval 0 _ _ rfl rfl)) a1 bs1 c1 hC1 (zae Tryz.underlying22 (hval 1 _ _ rfl rfl)));refine ⟨M,last,o,W',t',g1,g2,g3,g4.mono fun v ⟨he,hg0⟩=>?_⟩;subst he;have hg:=hg0.bl;refine zdl (pa:=p0 ++ (p1 ++ [])) (pv:=[]) hW' (fun _ _ _=>(trodAll_cons_mk (shut_bool Tryz.underlying4 _) trodAll_mk0)) (fun sp hsp=>?_) (fun _ _=>rfl) (by simp)
  hg (ok_one (by kernel_rfl) rfl (okWide_bool_mk Tryz.underlying4 _))
 exact (trodAll_cons_mk (zel laid (by kernel_rfl) (of_decide_eq_true (by kernel_rfl)) k0 hg hlt0 hsp (by intro x hx;simp only [List.mem_append];simp [hx])) (trodAll_cons_mk (zel laid (by kernel_rfl) (of_decide_eq_true (by kernel_rfl)) k1 hg hlt0 hsp (by intro x hx;simp only [List.mem_append];simp [hx])) trodAll_mk0))
theorem over:Rows.fnPutAgainRow.holds Tryz.pinned (OpenSpec.ofChange Rows.fnPutAgainSpec) :=
 OpenClaim.holds_of_wide_leaving 4 Tryz.f4 rfl rfl rfl rfl rfl rfl rfl ⟨rfl,rfl,rfl,rfl,rfl⟩ rfl rfl rfl rfl rfl (by kernel_rfl) Tryz.func4 (by kernel_rfl)
  (of_decide_eq_true (by kernel_rfl)) (by unfold Func.isWrapper;first | (rw [if_pos (by decide +kernel)];kernel_rfl) | (rw [if_neg (by decide +kernel)];exact ⟨rfl,rfl⟩))
  (fun os started H enc _=>zqm os started H enc)
theorem proved:Rows.FnPutAgainSaid :=
 over
end Go.Proofs.YtclnogfmmekooaaGreat.fnPutAgain
