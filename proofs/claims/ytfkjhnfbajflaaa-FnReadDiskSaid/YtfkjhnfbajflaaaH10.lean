/- A region that draws its order, inside a round of a range over a function: by the plain laws. -/
import Derived.RangeFuncNested
import Derived.RangeFuncCalls
import Derived.Deep.RegionHeld3
import Derived.OrdersIn
import Derived.Test.YtfkjhnfbajflaaaW
namespace Go.Proofs.Ytfkjhnfbajflaaa
set_option linter.unusedVariables false
set_option linter.unusedSimpArgs false
open Go.RowKit
def OnlyNormal (K : Act → World → Prop) : Exit → Act → World → Prop
  | .normal, a, w => K a w
  | _, _, _ => False
def noDefer (o : Oper) : Bool := match o.op with
  | .defer _ => false
  | _ => true
theorem noDefer_spec {o : Oper} (h : noDefer o = true) : ∀ c, o.op ≠ .defer c := fun c e => by
  unfold noDefer at h; rw [e] at h; cases h
section
variable {P : Program} {ops : Array Oper} {md : Region.Mode} {K : Act → World → Prop} {Q : Exit → Act → World → Prop} {l n : Nat}
theorem op_round {i : Nat} {K1 K2 : Act → World → Prop} {a : Act} {w : World} (hnd : ops.all noDefer = true) (hK : ∀ a w, K1 a w → K2 a w) (h : wpOp P ops (OnlyNormal K) i K1 a w) :
    wpOpIn (Fence.wide.inRound l) n P ops Q i K2 a w := by
  unfold wpOp at h
  unfold wpOpIn
  cases ho : ops[i]? with
  | none => simp only [ho] at h ⊢; exact hK _ _ h
  | some o =>
    simp only [ho] at h ⊢
    have hd : ∀ c, o.op ≠ .defer c := noDefer_spec (by
      rw [Array.all_eq_true'] at hnd
      exact hnd o (Array.mem_of_getElem? ho))
    split
    · rename_i hw
      simp only [hw, if_true] at h
      rcases h with h | ⟨_, _, _, h⟩
      · unfold Oper.wp at h
        refine ⟨fun _ _ => trivial, ?_⟩
        rw [Oper.semAt_eq _ _ _ hd]
        generalize (execOp a.eval o).run P w = r at h
        cases r with
        | ok nx w' =>
          cases nx with
          | value v => exact hK _ _ h
          | skip => exact hK _ _ h
          | defer d => exact hK _ _ h
          | enter f args =>
            refine ⟨fun hd => (by cases hd), ?_⟩
            refine (callsIn_wide.2 (Calls.mono (R := fun | .returned v, w'' => K1 (a.put o.dst v) w'' | .panicked chain, w'' => OnlyNormal K (.panic chain) a w'' | .outgrown, _ => LetsOut (OnlyNormal K)) h fun e w'' he => ?_)).inRound l
            cases e with
            | returned v => exact hK _ _ he
            | panicked c => exact he.elim
            | outgrown => obtain ⟨_, _, hf⟩ := he; exact hf.elim
          | row row args => exact ⟨fun hd => (by cases hd), fun c cs _ => by
              obtain ⟨v, w'', r, s⟩ := h c cs
              exact ⟨v, w'', hK _ _ r, stepsIn_wide.2 s⟩⟩
          | round _ _ _ _ _ => exact h.elim
          | _ => exact h.elim
        | halt hh w' =>
          cases hh with
          | panic v => exact h.elim
          | _ => exact h.elim
      · exact h.elim
    · rename_i hw
      simp only [hw] at h
      exact ⟨fun _ _ => trivial, hK _ _ h⟩
theorem any_round (hnd : ops.all noDefer = true) (hQ : ∀ a w, K a w → Q .normal a w) : ∀ (fuel : Nat) (listed : Array Bool) (a : Act) (w : World), wpAny P md ops (OnlyNormal K) fuel listed a w → wpAnyIn (Fence.wide.inRound l) n P md ops Q fuel listed a w
  | 0, _, _, _, h => ⟨h.1, hQ _ _ h.2⟩
  | fuel + 1, listed, a, w, h => ⟨fun e => hQ _ _ (h.1 e), fun i hi => op_round hnd (fun a w => any_round hnd hQ fuel _ a w) (h.2 i hi)⟩
/-- a region in a round, by the plain law of any order -/
theorem region_round {id : Nat} {a : Act} {w : World} (hm : P.follows .mixedOrders = true) (hnd : ops.all noDefer = true)
    (h : wpAny P .any ops (OnlyNormal fun a w => Q .normal a w) ops.size (Array.replicate ops.size false) a w.drew) : (Code.region id ops true).wpIn (Fence.wide.inRound l) n P Q a w :=
  wpIn_region_any hm (any_round hnd (fun _ _ h => h) _ _ _ _ h)
/-- the same, by the law with a condition on the world -/
theorem region_round_held {S : World → Prop} {id : Nat} {a : Act} {w : World} (hm : P.follows .mixedOrders = true) (hnd : ops.all noDefer = true) (hS : S w.drew)
    (h : S w.drew → wpAnyH P .any ops (OnlyNormal fun a w => Q .normal a w) S ops.size (Array.replicate ops.size false) a w.drew) : (Code.region id ops true).wpIn (Fence.wide.inRound l) n P Q a w :=
  region_round hm hnd (wpAny_of_held _ _ _ _ (h hS))
end
end Go.Proofs.Ytfkjhnfbajflaaa
