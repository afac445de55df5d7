/-
  No cell of these rows narrows 'for every input' (looked for: loops, veiled, ifaces, maps, wideKeys, modest, calm, conditions, laid).
  DERIVED. THE GIVEN ROWS OF THIS SEAT. 12 by the template 'for every input the law returns true; each argument reads behind the call as it read before'; 0 by the template 'total and deterministic' (their statements: YtbekihiiildgmaaTotals.lean).
  GIVEN WITH THE SEED: the statements are not yours to turn. If you find one false, say at which input.
  Laid BY PROGRAM, IN A SANDBOX (cutbox-rows.mjs): the forced cells as the released guide's own fill.sh prints them over the translation bf5098686f22bfed… (all of the seat's roots in one cut). By AI agents, Wed Nov 11 2026. No macro, syntax, notation, axiom, sorry.
-/
import Derived.Test.YtbekihiiildgmaaChecked
import GoSem.Claim
import GoSem.ClaimJoined
import GoSem.ClaimMapViews
import Derived.JoinedTies
import Derived.KernelRfl
namespace Go.Proofs.Ytbekihiiildgmaa
/- THE CELL 'sum', in the pinned program and in every row, IS THE sha256 OF THE DUMP (.gsa) THAT YtbekihiiildgmaaProg.lean LOADS. Nothing in Lean hashes anything: it is a label: what it is worth is what the hold of that sum in a sandbox is worth. -/
noncomputable def Try.pinned : Pinned := { name := "ytbekihiiildgmaa", sum := "bf5098686f22bfed2db8a11fff679866444dfdfac26339bf31ec31bbefe53446", checked := Try.checked }
namespace Rows
def none {H : Type} : Left H := { results := [], args := [] }

/-- 'laws.FnDoOk': WHATEVER THE INPUT: true; the input reads as it did. -/
def fnDoOkSpec : ChangeSpec := { name := "fnDoOk", fn := fun _ => fun
  | [d] => { results := [.lit (.bool true)], args := [d] }
  | _ => none }
def fnDoOkRow : OpenClaim := { program := "ytbekihiiildgmaa", sum := "bf5098686f22bfed2db8a11fff679866444dfdfac26339bf31ec31bbefe53446", func := "loop.example/buttery/laws.FnDoOk", spec := "fnDoOk", unfollowed := true, recurses := true, apart := false }
def FnDoOkSaid : Prop := fnDoOkRow.holds Try.pinned (OpenSpec.ofChange fnDoOkSpec)

/-- ITS FALSE NEIGHBOUR: 'it returns false'. Refute it at one input. -/
def fnDoOkWrong : ChangeSpec := { name := "fnDoOk", fn := fun _ => fun
  | [d] => { results := [.lit (.bool false)], args := [d] }
  | _ => none }
def FnDoOkWrongFalsely : Prop := fnDoOkRow.holds Try.pinned (OpenSpec.ofChange fnDoOkWrong)

/-- 'laws.FnDoSteps': WHATEVER THE INPUT: true; the input reads as it did. -/
def fnDoStepsSpec : ChangeSpec := { name := "fnDoSteps", fn := fun _ => fun
  | [d] => { results := [.lit (.bool true)], args := [d] }
  | _ => none }
def fnDoStepsRow : OpenClaim := { program := "ytbekihiiildgmaa", sum := "bf5098686f22bfed2db8a11fff679866444dfdfac26339bf31ec31bbefe53446", func := "loop.example/buttery/laws.FnDoSteps", spec := "fnDoSteps", unfollowed := true, recurses := true, apart := false }
def FnDoStepsSaid : Prop := fnDoStepsRow.holds Try.pinned (OpenSpec.ofChange fnDoStepsSpec)

/-- ITS FALSE NEIGHBOUR: 'it returns false'. Refute it at one input. -/
def fnDoStepsWrong : ChangeSpec := { name := "fnDoSteps", fn := fun _ => fun
  | [d] => { results := [.lit (.bool false)], args := [d] }
  | _ => none }
def FnDoStepsWrongFalsely : Prop := fnDoStepsRow.holds Try.pinned (OpenSpec.ofChange fnDoStepsWrong)

/-- 'laws.FnToTorn': WHATEVER THE INPUT: true; the input reads as it did. -/
def fnToTornSpec : ChangeSpec := { name := "fnToTorn", fn := fun _ => fun
  | [d] => { results := [.lit (.bool true)], args := [d] }
  | _ => none }
def fnToTornRow : OpenClaim := { program := "ytbekihiiildgmaa", sum := "bf5098686f22bfed2db8a11fff679866444dfdfac26339bf31ec31bbefe53446", func := "loop.example/buttery/laws.FnToTorn", spec := "fnToTorn", unfollowed := true, recurses := true, apart := false }
def FnToTornSaid : Prop := fnToTornRow.holds Try.pinned (OpenSpec.ofChange fnToTornSpec)

/-- ITS FALSE NEIGHBOUR: 'it returns false'. Refute it at one input. -/
def fnToTornWrong : ChangeSpec := { name := "fnToTorn", fn := fun _ => fun
  | [d] => { results := [.lit (.bool false)], args := [d] }
  | _ => none }
def FnToTornWrongFalsely : Prop := fnToTornRow.holds Try.pinned (OpenSpec.ofChange fnToTornWrong)

/-- 'laws.FnToDisk': WHATEVER THE INPUT: true; the input reads as it did. -/
def fnToDiskSpec : ChangeSpec := { name := "fnToDisk", fn := fun _ => fun
  | [d] => { results := [.lit (.bool true)], args := [d] }
  | _ => none }
def fnToDiskRow : OpenClaim := { program := "ytbekihiiildgmaa", sum := "bf5098686f22bfed2db8a11fff679866444dfdfac26339bf31ec31bbefe53446", func := "loop.example/buttery/laws.FnToDisk", spec := "fnToDisk", unfollowed := true, recurses := true, apart := false }
def FnToDiskSaid : Prop := fnToDiskRow.holds Try.pinned (OpenSpec.ofChange fnToDiskSpec)

/-- ITS FALSE NEIGHBOUR: 'it returns false'. Refute it at one input. -/
def fnToDiskWrong : ChangeSpec := { name := "fnToDisk", fn := fun _ => fun
  | [d] => { results := [.lit (.bool false)], args := [d] }
  | _ => none }
def FnToDiskWrongFalsely : Prop := fnToDiskRow.holds Try.pinned (OpenSpec.ofChange fnToDiskWrong)

/-- 'laws.FnToSteps': WHATEVER THE INPUT: true; the input reads as it did. -/
def fnToStepsSpec : ChangeSpec := { name := "fnToSteps", fn := fun _ => fun
  | [d1, d2] => { results := [.lit (.bool true)], args := [d1, d2] }
  | _ => none }
def fnToStepsRow : OpenClaim := { program := "ytbekihiiildgmaa", sum := "bf5098686f22bfed2db8a11fff679866444dfdfac26339bf31ec31bbefe53446", func := "loop.example/buttery/laws.FnToSteps", spec := "fnToSteps", unfollowed := true, recurses := true, apart := false }
def FnToStepsSaid : Prop := fnToStepsRow.holds Try.pinned (OpenSpec.ofChange fnToStepsSpec)

/-- ITS FALSE NEIGHBOUR: 'it returns false'. Refute it at one input. -/
def fnToStepsWrong : ChangeSpec := { name := "fnToSteps", fn := fun _ => fun
  | [d1, d2] => { results := [.lit (.bool false)], args := [d1, d2] }
  | _ => none }
def FnToStepsWrongFalsely : Prop := fnToStepsRow.holds Try.pinned (OpenSpec.ofChange fnToStepsWrong)

/-- 'laws.FnRunAll': WHATEVER THE INPUT: true; the input reads as it did. -/
def fnRunAllSpec : ChangeSpec := { name := "fnRunAll", fn := fun _ => fun
  | [d] => { results := [.lit (.bool true)], args := [d] }
  | _ => none }
def fnRunAllRow : OpenClaim := { program := "ytbekihiiildgmaa", sum := "bf5098686f22bfed2db8a11fff679866444dfdfac26339bf31ec31bbefe53446", func := "loop.example/buttery/laws.FnRunAll", spec := "fnRunAll", unfollowed := true, recurses := true, apart := false }
def FnRunAllSaid : Prop := fnRunAllRow.holds Try.pinned (OpenSpec.ofChange fnRunAllSpec)

/-- ITS FALSE NEIGHBOUR: 'it returns false'. Refute it at one input. -/
def fnRunAllWrong : ChangeSpec := { name := "fnRunAll", fn := fun _ => fun
  | [d] => { results := [.lit (.bool false)], args := [d] }
  | _ => none }
def FnRunAllWrongFalsely : Prop := fnRunAllRow.holds Try.pinned (OpenSpec.ofChange fnRunAllWrong)

/-- 'laws.FnRunNever': WHATEVER THE INPUT: true; the input reads as it did. -/
def fnRunNeverSpec : ChangeSpec := { name := "fnRunNever", fn := fun _ => fun
  | [d] => { results := [.lit (.bool true)], args := [d] }
  | _ => none }
def fnRunNeverRow : OpenClaim := { program := "ytbekihiiildgmaa", sum := "bf5098686f22bfed2db8a11fff679866444dfdfac26339bf31ec31bbefe53446", func := "loop.example/buttery/laws.FnRunNever", spec := "fnRunNever", unfollowed := true, recurses := true, apart := false }
def FnRunNeverSaid : Prop := fnRunNeverRow.holds Try.pinned (OpenSpec.ofChange fnRunNeverSpec)

/-- ITS FALSE NEIGHBOUR: 'it returns false'. Refute it at one input. -/
def fnRunNeverWrong : ChangeSpec := { name := "fnRunNever", fn := fun _ => fun
  | [d] => { results := [.lit (.bool false)], args := [d] }
  | _ => none }
def FnRunNeverWrongFalsely : Prop := fnRunNeverRow.holds Try.pinned (OpenSpec.ofChange fnRunNeverWrong)

/-- 'laws.FnRunAddr': WHATEVER THE INPUT: true; the input reads as it did. -/
def fnRunAddrSpec : ChangeSpec := { name := "fnRunAddr", fn := fun _ => fun
  | [d1, d2] => { results := [.lit (.bool true)], args := [d1, d2] }
  | _ => none }
def fnRunAddrRow : OpenClaim := { program := "ytbekihiiildgmaa", sum := "bf5098686f22bfed2db8a11fff679866444dfdfac26339bf31ec31bbefe53446", func := "loop.example/buttery/laws.FnRunAddr", spec := "fnRunAddr", unfollowed := true, recurses := true, apart := false }
def FnRunAddrSaid : Prop := fnRunAddrRow.holds Try.pinned (OpenSpec.ofChange fnRunAddrSpec)

/-- ITS FALSE NEIGHBOUR: 'it returns false'. Refute it at one input. -/
def fnRunAddrWrong : ChangeSpec := { name := "fnRunAddr", fn := fun _ => fun
  | [d1, d2] => { results := [.lit (.bool false)], args := [d1, d2] }
  | _ => none }
def FnRunAddrWrongFalsely : Prop := fnRunAddrRow.holds Try.pinned (OpenSpec.ofChange fnRunAddrWrong)

/-- 'laws.FnFlushAll': WHATEVER THE INPUT: true; the input reads as it did. -/
def fnFlushAllSpec : ChangeSpec := { name := "fnFlushAll", fn := fun _ => fun
  | [d] => { results := [.lit (.bool true)], args := [d] }
  | _ => none }
def fnFlushAllRow : OpenClaim := { program := "ytbekihiiildgmaa", sum := "bf5098686f22bfed2db8a11fff679866444dfdfac26339bf31ec31bbefe53446", func := "loop.example/buttery/laws.FnFlushAll", spec := "fnFlushAll", unfollowed := true, recurses := true, apart := false }
def FnFlushAllSaid : Prop := fnFlushAllRow.holds Try.pinned (OpenSpec.ofChange fnFlushAllSpec)

/-- ITS FALSE NEIGHBOUR: 'it returns false'. Refute it at one input. -/
def fnFlushAllWrong : ChangeSpec := { name := "fnFlushAll", fn := fun _ => fun
  | [d] => { results := [.lit (.bool false)], args := [d] }
  | _ => none }
def FnFlushAllWrongFalsely : Prop := fnFlushAllRow.holds Try.pinned (OpenSpec.ofChange fnFlushAllWrong)

/-- 'laws.FnFill': WHATEVER THE INPUT: true; the input reads as it did. -/
def fnFillSpec : ChangeSpec := { name := "fnFill", fn := fun _ => fun
  | [d1, d2] => { results := [.lit (.bool true)], args := [d1, d2] }
  | _ => none }
def fnFillRow : OpenClaim := { program := "ytbekihiiildgmaa", sum := "bf5098686f22bfed2db8a11fff679866444dfdfac26339bf31ec31bbefe53446", func := "loop.example/buttery/laws.FnFill", spec := "fnFill", unfollowed := true, recurses := true, apart := false }
def FnFillSaid : Prop := fnFillRow.holds Try.pinned (OpenSpec.ofChange fnFillSpec)

/-- ITS FALSE NEIGHBOUR: 'it returns false'. Refute it at one input. -/
def fnFillWrong : ChangeSpec := { name := "fnFill", fn := fun _ => fun
  | [d1, d2] => { results := [.lit (.bool false)], args := [d1, d2] }
  | _ => none }
def FnFillWrongFalsely : Prop := fnFillRow.holds Try.pinned (OpenSpec.ofChange fnFillWrong)

/-- 'laws.FnExactStepsTo': WHATEVER THE INPUT: true; the input reads as it did. -/
def fnExactStepsToSpec : ChangeSpec := { name := "fnExactStepsTo", fn := fun _ => fun
  | [d1, d2, d3, d4] => { results := [.lit (.bool true)], args := [d1, d2, d3, d4] }
  | _ => none }
def fnExactStepsToRow : OpenClaim := { program := "ytbekihiiildgmaa", sum := "bf5098686f22bfed2db8a11fff679866444dfdfac26339bf31ec31bbefe53446", func := "loop.example/buttery/laws.FnExactStepsTo", spec := "fnExactStepsTo", unfollowed := true, recurses := true, apart := false }
def FnExactStepsToSaid : Prop := fnExactStepsToRow.holds Try.pinned (OpenSpec.ofChange fnExactStepsToSpec)

/-- ITS FALSE NEIGHBOUR: 'it returns false'. Refute it at one input. -/
def fnExactStepsToWrong : ChangeSpec := { name := "fnExactStepsTo", fn := fun _ => fun
  | [d1, d2, d3, d4] => { results := [.lit (.bool false)], args := [d1, d2, d3, d4] }
  | _ => none }
def FnExactStepsToWrongFalsely : Prop := fnExactStepsToRow.holds Try.pinned (OpenSpec.ofChange fnExactStepsToWrong)

/-- 'laws.FnExactPlaySteps': WHATEVER THE INPUT: true; the input reads as it did. -/
def fnExactPlayStepsSpec : ChangeSpec := { name := "fnExactPlaySteps", fn := fun _ => fun
  | [d1, d2] => { results := [.lit (.bool true)], args := [d1, d2] }
  | _ => none }
def fnExactPlayStepsRow : OpenClaim := { program := "ytbekihiiildgmaa", sum := "bf5098686f22bfed2db8a11fff679866444dfdfac26339bf31ec31bbefe53446", func := "loop.example/buttery/laws.FnExactPlaySteps", spec := "fnExactPlaySteps", unfollowed := true, recurses := true, apart := false }
def FnExactPlayStepsSaid : Prop := fnExactPlayStepsRow.holds Try.pinned (OpenSpec.ofChange fnExactPlayStepsSpec)

/-- ITS FALSE NEIGHBOUR: 'it returns false'. Refute it at one input. -/
def fnExactPlayStepsWrong : ChangeSpec := { name := "fnExactPlaySteps", fn := fun _ => fun
  | [d1, d2] => { results := [.lit (.bool false)], args := [d1, d2] }
  | _ => none }
def FnExactPlayStepsWrongFalsely : Prop := fnExactPlayStepsRow.holds Try.pinned (OpenSpec.ofChange fnExactPlayStepsWrong)

/- THE SECOND FORM. 'bulk': how many values and letters a reading holds, each counted each time it is reached (what is shared counts as often as it is met; a slice's spare places count too). A statement '..UptoSaid' is the law's where the arguments, and the package variables that the reading takes, are together of bulk at most 1048576: NARROWER than '..Said'. Prove '..Said' where nothing that the law and all that it calls make is longer than what came in: it says more and counts as full. Else prove '..UptoSaid'. A law counts once. -/
mutual
def uptoBulk {H : Type} : DataW H → Nat
  | .lit (.string bytes) => bytes.length + 1
  | .lit _ => 1
  | .nil => 1
  | .ptr d => uptoBulk d + 1
  | .slice elems spare => uptoBulkAll elems + uptoBulkAll spare + 1
  | .agg parts => uptoBulkAll parts + 1
  | .iface _ d => uptoBulk d + 1
  | .map entries => uptoBulkEntries entries + 1
  | .held _ => 1
def uptoBulkAll {H : Type} : List (DataW H) → Nat
  | [] => 0
  | d :: r => uptoBulk d + uptoBulkAll r
def uptoBulkEntries {H : Type} : List (Lit × DataW H) → Nat
  | [] => 0
  | x :: r => uptoBulkEntry x + uptoBulkEntries r
def uptoBulkEntry {H : Type} : Lit × DataW H → Nat
  | (.string bytes, d) => bytes.length + uptoBulk d + 1
  | (_, d) => uptoBulk d + 1
 end
def uptoSmall : (H : Type) → List (DataW H) → Bool := fun _ ds => decide (uptoBulkAll ds ≤ 1048576)
def OpenSpec.upto (s : _root_.Go.ChangeSpec) : _root_.Go.OpenSpec := { _root_.Go.OpenSpec.ofChange s with cond := some uptoSmall }

/-- 'laws.FnDoOk', WHERE WHAT IT READS IS OF BULK AT MOST 1048576: true; the input reads as it did. -/
def fnDoOkUptoRow : OpenClaim := { program := "ytbekihiiildgmaa", sum := "bf5098686f22bfed2db8a11fff679866444dfdfac26339bf31ec31bbefe53446", func := "loop.example/buttery/laws.FnDoOk", spec := "fnDoOk", unfollowed := true, recurses := true, apart := false, narrowed := true }
def FnDoOkUptoSaid : Prop := fnDoOkUptoRow.holds Try.pinned (OpenSpec.upto fnDoOkSpec)

/-- 'laws.FnDoSteps', WHERE WHAT IT READS IS OF BULK AT MOST 1048576: true; the input reads as it did. -/
def fnDoStepsUptoRow : OpenClaim := { program := "ytbekihiiildgmaa", sum := "bf5098686f22bfed2db8a11fff679866444dfdfac26339bf31ec31bbefe53446", func := "loop.example/buttery/laws.FnDoSteps", spec := "fnDoSteps", unfollowed := true, recurses := true, apart := false, narrowed := true }
def FnDoStepsUptoSaid : Prop := fnDoStepsUptoRow.holds Try.pinned (OpenSpec.upto fnDoStepsSpec)

/-- 'laws.FnToTorn', WHERE WHAT IT READS IS OF BULK AT MOST 1048576: true; the input reads as it did. -/
def fnToTornUptoRow : OpenClaim := { program := "ytbekihiiildgmaa", sum := "bf5098686f22bfed2db8a11fff679866444dfdfac26339bf31ec31bbefe53446", func := "loop.example/buttery/laws.FnToTorn", spec := "fnToTorn", unfollowed := true, recurses := true, apart := false, narrowed := true }
def FnToTornUptoSaid : Prop := fnToTornUptoRow.holds Try.pinned (OpenSpec.upto fnToTornSpec)

/-- 'laws.FnToDisk', WHERE WHAT IT READS IS OF BULK AT MOST 1048576: true; the input reads as it did. -/
def fnToDiskUptoRow : OpenClaim := { program := "ytbekihiiildgmaa", sum := "bf5098686f22bfed2db8a11fff679866444dfdfac26339bf31ec31bbefe53446", func := "loop.example/buttery/laws.FnToDisk", spec := "fnToDisk", unfollowed := true, recurses := true, apart := false, narrowed := true }
def FnToDiskUptoSaid : Prop := fnToDiskUptoRow.holds Try.pinned (OpenSpec.upto fnToDiskSpec)

/-- 'laws.FnToSteps', WHERE WHAT IT READS IS OF BULK AT MOST 1048576: true; the input reads as it did. -/
def fnToStepsUptoRow : OpenClaim := { program := "ytbekihiiildgmaa", sum := "bf5098686f22bfed2db8a11fff679866444dfdfac26339bf31ec31bbefe53446", func := "loop.example/buttery/laws.FnToSteps", spec := "fnToSteps", unfollowed := true, recurses := true, apart := false, narrowed := true }
def FnToStepsUptoSaid : Prop := fnToStepsUptoRow.holds Try.pinned (OpenSpec.upto fnToStepsSpec)

/-- 'laws.FnRunAll', WHERE WHAT IT READS IS OF BULK AT MOST 1048576: true; the input reads as it did. -/
def fnRunAllUptoRow : OpenClaim := { program := "ytbekihiiildgmaa", sum := "bf5098686f22bfed2db8a11fff679866444dfdfac26339bf31ec31bbefe53446", func := "loop.example/buttery/laws.FnRunAll", spec := "fnRunAll", unfollowed := true, recurses := true, apart := false, narrowed := true }
def FnRunAllUptoSaid : Prop := fnRunAllUptoRow.holds Try.pinned (OpenSpec.upto fnRunAllSpec)

/-- 'laws.FnRunNever', WHERE WHAT IT READS IS OF BULK AT MOST 1048576: true; the input reads as it did. -/
def fnRunNeverUptoRow : OpenClaim := { program := "ytbekihiiildgmaa", sum := "bf5098686f22bfed2db8a11fff679866444dfdfac26339bf31ec31bbefe53446", func := "loop.example/buttery/laws.FnRunNever", spec := "fnRunNever", unfollowed := true, recurses := true, apart := false, narrowed := true }
def FnRunNeverUptoSaid : Prop := fnRunNeverUptoRow.holds Try.pinned (OpenSpec.upto fnRunNeverSpec)

/-- 'laws.FnRunAddr', WHERE WHAT IT READS IS OF BULK AT MOST 1048576: true; the input reads as it did. -/
def fnRunAddrUptoRow : OpenClaim := { program := "ytbekihiiildgmaa", sum := "bf5098686f22bfed2db8a11fff679866444dfdfac26339bf31ec31bbefe53446", func := "loop.example/buttery/laws.FnRunAddr", spec := "fnRunAddr", unfollowed := true, recurses := true, apart := false, narrowed := true }
def FnRunAddrUptoSaid : Prop := fnRunAddrUptoRow.holds Try.pinned (OpenSpec.upto fnRunAddrSpec)

/-- 'laws.FnFlushAll', WHERE WHAT IT READS IS OF BULK AT MOST 1048576: true; the input reads as it did. -/
def fnFlushAllUptoRow : OpenClaim := { program := "ytbekihiiildgmaa", sum := "bf5098686f22bfed2db8a11fff679866444dfdfac26339bf31ec31bbefe53446", func := "loop.example/buttery/laws.FnFlushAll", spec := "fnFlushAll", unfollowed := true, recurses := true, apart := false, narrowed := true }
def FnFlushAllUptoSaid : Prop := fnFlushAllUptoRow.holds Try.pinned (OpenSpec.upto fnFlushAllSpec)

/-- 'laws.FnFill', WHERE WHAT IT READS IS OF BULK AT MOST 1048576: true; the input reads as it did. -/
def fnFillUptoRow : OpenClaim := { program := "ytbekihiiildgmaa", sum := "bf5098686f22bfed2db8a11fff679866444dfdfac26339bf31ec31bbefe53446", func := "loop.example/buttery/laws.FnFill", spec := "fnFill", unfollowed := true, recurses := true, apart := false, narrowed := true }
def FnFillUptoSaid : Prop := fnFillUptoRow.holds Try.pinned (OpenSpec.upto fnFillSpec)

/-- 'laws.FnExactStepsTo', WHERE WHAT IT READS IS OF BULK AT MOST 1048576: true; the input reads as it did. -/
def fnExactStepsToUptoRow : OpenClaim := { program := "ytbekihiiildgmaa", sum := "bf5098686f22bfed2db8a11fff679866444dfdfac26339bf31ec31bbefe53446", func := "loop.example/buttery/laws.FnExactStepsTo", spec := "fnExactStepsTo", unfollowed := true, recurses := true, apart := false, narrowed := true }
def FnExactStepsToUptoSaid : Prop := fnExactStepsToUptoRow.holds Try.pinned (OpenSpec.upto fnExactStepsToSpec)

/-- 'laws.FnExactPlaySteps', WHERE WHAT IT READS IS OF BULK AT MOST 1048576: true; the input reads as it did. -/
def fnExactPlayStepsUptoRow : OpenClaim := { program := "ytbekihiiildgmaa", sum := "bf5098686f22bfed2db8a11fff679866444dfdfac26339bf31ec31bbefe53446", func := "loop.example/buttery/laws.FnExactPlaySteps", spec := "fnExactPlaySteps", unfollowed := true, recurses := true, apart := false, narrowed := true }
def FnExactPlayStepsUptoSaid : Prop := fnExactPlayStepsUptoRow.holds Try.pinned (OpenSpec.upto fnExactPlayStepsSpec)

end Rows
end Go.Proofs.Ytbekihiiildgmaa
