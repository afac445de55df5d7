/-
  No cell of these rows narrows 'for every input' (looked for: loops, veiled, ifaces, maps, wideKeys, modest, calm, conditions, laid).
  DERIVED. THE GIVEN ROWS OF THIS SEAT. 11 by the template 'for every input the law returns true; each argument reads behind the call as it read before'; 0 by the template 'total and deterministic' (their statements: YtohkoogmbfaceaaTotals.lean).
  GIVEN WITH THE SEED: the statements are not yours to turn. If you find one false, say at which input.
  Laid BY PROGRAM, IN A SANDBOX (cutbox-rows.mjs): the forced cells as the released guide's own fill.sh prints them over the translation 02bfe30fc8af466f… (all of the seat's roots in one cut). By AI agents, Wed Nov 11 2026. No macro, syntax, notation, axiom, sorry.
-/
import Derived.Test.YtohkoogmbfaceaaChecked
import GoSem.Claim
import GoSem.ClaimJoined
import GoSem.ClaimMapViews
import Derived.JoinedTies
import Derived.KernelRfl
namespace Go.Proofs.Ytohkoogmbfaceaa
/- THE CELL 'sum', in the pinned program and in every row, IS THE sha256 OF THE DUMP (.gsa) THAT YtohkoogmbfaceaaProg.lean LOADS. Nothing in Lean hashes anything: it is a label: what it is worth is what the hold of that sum in a sandbox is worth. -/
noncomputable def Try.pinned : Pinned := { name := "ytohkoogmbfaceaa", sum := "02bfe30fc8af466f4ca80cf7fb952c116c4f0791754717157c9800d6c0899ab8", checked := Try.checked }
namespace Rows
def none {H : Type} : Left H := { results := [], args := [] }

/-- 'laws.FnRunCut': WHATEVER THE INPUT: true; the input reads as it did. -/
def fnRunCutSpec : ChangeSpec := { name := "fnRunCut", fn := fun _ => fun
  | [d1, d2] => { results := [.lit (.bool true)], args := [d1, d2] }
  | _ => none }
def fnRunCutRow : OpenClaim := { program := "ytohkoogmbfaceaa", sum := "02bfe30fc8af466f4ca80cf7fb952c116c4f0791754717157c9800d6c0899ab8", func := "loop.example/buttery/laws.FnRunCut", spec := "fnRunCut", unfollowed := true, recurses := true, apart := false }
def FnRunCutSaid : Prop := fnRunCutRow.holds Try.pinned (OpenSpec.ofChange fnRunCutSpec)

/-- ITS FALSE NEIGHBOUR: 'it returns false'. Refute it at one input. -/
def fnRunCutWrong : ChangeSpec := { name := "fnRunCut", fn := fun _ => fun
  | [d1, d2] => { results := [.lit (.bool false)], args := [d1, d2] }
  | _ => none }
def FnRunCutWrongFalsely : Prop := fnRunCutRow.holds Try.pinned (OpenSpec.ofChange fnRunCutWrong)

/-- 'laws.FnRunDisk': WHATEVER THE INPUT: true; the input reads as it did. -/
def fnRunDiskSpec : ChangeSpec := { name := "fnRunDisk", fn := fun _ => fun
  | [d] => { results := [.lit (.bool true)], args := [d] }
  | _ => none }
def fnRunDiskRow : OpenClaim := { program := "ytohkoogmbfaceaa", sum := "02bfe30fc8af466f4ca80cf7fb952c116c4f0791754717157c9800d6c0899ab8", func := "loop.example/buttery/laws.FnRunDisk", spec := "fnRunDisk", unfollowed := true, recurses := true, apart := false }
def FnRunDiskSaid : Prop := fnRunDiskRow.holds Try.pinned (OpenSpec.ofChange fnRunDiskSpec)

/-- ITS FALSE NEIGHBOUR: 'it returns false'. Refute it at one input. -/
def fnRunDiskWrong : ChangeSpec := { name := "fnRunDisk", fn := fun _ => fun
  | [d] => { results := [.lit (.bool false)], args := [d] }
  | _ => none }
def FnRunDiskWrongFalsely : Prop := fnRunDiskRow.holds Try.pinned (OpenSpec.ofChange fnRunDiskWrong)

/-- 'laws.FnRunIdle': WHATEVER THE INPUT: true; the input reads as it did. -/
def fnRunIdleSpec : ChangeSpec := { name := "fnRunIdle", fn := fun _ => fun
  | [d] => { results := [.lit (.bool true)], args := [d] }
  | _ => none }
def fnRunIdleRow : OpenClaim := { program := "ytohkoogmbfaceaa", sum := "02bfe30fc8af466f4ca80cf7fb952c116c4f0791754717157c9800d6c0899ab8", func := "loop.example/buttery/laws.FnRunIdle", spec := "fnRunIdle", unfollowed := true, recurses := true, apart := false }
def FnRunIdleSaid : Prop := fnRunIdleRow.holds Try.pinned (OpenSpec.ofChange fnRunIdleSpec)

/-- ITS FALSE NEIGHBOUR: 'it returns false'. Refute it at one input. -/
def fnRunIdleWrong : ChangeSpec := { name := "fnRunIdle", fn := fun _ => fun
  | [d] => { results := [.lit (.bool false)], args := [d] }
  | _ => none }
def FnRunIdleWrongFalsely : Prop := fnRunIdleRow.holds Try.pinned (OpenSpec.ofChange fnRunIdleWrong)

/-- 'laws.FnRunMany': WHATEVER THE INPUT: true; the input reads as it did. -/
def fnRunManySpec : ChangeSpec := { name := "fnRunMany", fn := fun _ => fun
  | [d] => { results := [.lit (.bool true)], args := [d] }
  | _ => none }
def fnRunManyRow : OpenClaim := { program := "ytohkoogmbfaceaa", sum := "02bfe30fc8af466f4ca80cf7fb952c116c4f0791754717157c9800d6c0899ab8", func := "loop.example/buttery/laws.FnRunMany", spec := "fnRunMany", unfollowed := true, recurses := true, apart := false }
def FnRunManySaid : Prop := fnRunManyRow.holds Try.pinned (OpenSpec.ofChange fnRunManySpec)

/-- ITS FALSE NEIGHBOUR: 'it returns false'. Refute it at one input. -/
def fnRunManyWrong : ChangeSpec := { name := "fnRunMany", fn := fun _ => fun
  | [d] => { results := [.lit (.bool false)], args := [d] }
  | _ => none }
def FnRunManyWrongFalsely : Prop := fnRunManyRow.holds Try.pinned (OpenSpec.ofChange fnRunManyWrong)

/-- 'laws.FnRunOrder': WHATEVER THE INPUT: true; the input reads as it did. -/
def fnRunOrderSpec : ChangeSpec := { name := "fnRunOrder", fn := fun _ => fun
  | [d] => { results := [.lit (.bool true)], args := [d] }
  | _ => none }
def fnRunOrderRow : OpenClaim := { program := "ytohkoogmbfaceaa", sum := "02bfe30fc8af466f4ca80cf7fb952c116c4f0791754717157c9800d6c0899ab8", func := "loop.example/buttery/laws.FnRunOrder", spec := "fnRunOrder", unfollowed := true, recurses := true, apart := false }
def FnRunOrderSaid : Prop := fnRunOrderRow.holds Try.pinned (OpenSpec.ofChange fnRunOrderSpec)

/-- ITS FALSE NEIGHBOUR: 'it returns false'. Refute it at one input. -/
def fnRunOrderWrong : ChangeSpec := { name := "fnRunOrder", fn := fun _ => fun
  | [d] => { results := [.lit (.bool false)], args := [d] }
  | _ => none }
def FnRunOrderWrongFalsely : Prop := fnRunOrderRow.holds Try.pinned (OpenSpec.ofChange fnRunOrderWrong)

/-- 'laws.FnRunNew': WHATEVER THE INPUT: true; the input reads as it did. -/
def fnRunNewSpec : ChangeSpec := { name := "fnRunNew", fn := fun _ => fun
  | [d] => { results := [.lit (.bool true)], args := [d] }
  | _ => none }
def fnRunNewRow : OpenClaim := { program := "ytohkoogmbfaceaa", sum := "02bfe30fc8af466f4ca80cf7fb952c116c4f0791754717157c9800d6c0899ab8", func := "loop.example/buttery/laws.FnRunNew", spec := "fnRunNew", unfollowed := true, recurses := true, apart := false }
def FnRunNewSaid : Prop := fnRunNewRow.holds Try.pinned (OpenSpec.ofChange fnRunNewSpec)

/-- ITS FALSE NEIGHBOUR: 'it returns false'. Refute it at one input. -/
def fnRunNewWrong : ChangeSpec := { name := "fnRunNew", fn := fun _ => fun
  | [d] => { results := [.lit (.bool false)], args := [d] }
  | _ => none }
def FnRunNewWrongFalsely : Prop := fnRunNewRow.holds Try.pinned (OpenSpec.ofChange fnRunNewWrong)

/-- 'laws.FnRunPut': WHATEVER THE INPUT: true; the input reads as it did. -/
def fnRunPutSpec : ChangeSpec := { name := "fnRunPut", fn := fun _ => fun
  | [d1, d2] => { results := [.lit (.bool true)], args := [d1, d2] }
  | _ => none }
def fnRunPutRow : OpenClaim := { program := "ytohkoogmbfaceaa", sum := "02bfe30fc8af466f4ca80cf7fb952c116c4f0791754717157c9800d6c0899ab8", func := "loop.example/buttery/laws.FnRunPut", spec := "fnRunPut", unfollowed := true, recurses := true, apart := false }
def FnRunPutSaid : Prop := fnRunPutRow.holds Try.pinned (OpenSpec.ofChange fnRunPutSpec)

/-- ITS FALSE NEIGHBOUR: 'it returns false'. Refute it at one input. -/
def fnRunPutWrong : ChangeSpec := { name := "fnRunPut", fn := fun _ => fun
  | [d1, d2] => { results := [.lit (.bool false)], args := [d1, d2] }
  | _ => none }
def FnRunPutWrongFalsely : Prop := fnRunPutRow.holds Try.pinned (OpenSpec.ofChange fnRunPutWrong)

/-- 'laws.FnRunStays': WHATEVER THE INPUT: true; the input reads as it did. -/
def fnRunStaysSpec : ChangeSpec := { name := "fnRunStays", fn := fun _ => fun
  | [d1, d2] => { results := [.lit (.bool true)], args := [d1, d2] }
  | _ => none }
def fnRunStaysRow : OpenClaim := { program := "ytohkoogmbfaceaa", sum := "02bfe30fc8af466f4ca80cf7fb952c116c4f0791754717157c9800d6c0899ab8", func := "loop.example/buttery/laws.FnRunStays", spec := "fnRunStays", unfollowed := true, recurses := true, apart := false }
def FnRunStaysSaid : Prop := fnRunStaysRow.holds Try.pinned (OpenSpec.ofChange fnRunStaysSpec)

/-- ITS FALSE NEIGHBOUR: 'it returns false'. Refute it at one input. -/
def fnRunStaysWrong : ChangeSpec := { name := "fnRunStays", fn := fun _ => fun
  | [d1, d2] => { results := [.lit (.bool false)], args := [d1, d2] }
  | _ => none }
def FnRunStaysWrongFalsely : Prop := fnRunStaysRow.holds Try.pinned (OpenSpec.ofChange fnRunStaysWrong)

/-- 'laws.FnRunFlush': WHATEVER THE INPUT: true; the input reads as it did. -/
def fnRunFlushSpec : ChangeSpec := { name := "fnRunFlush", fn := fun _ => fun
  | [d] => { results := [.lit (.bool true)], args := [d] }
  | _ => none }
def fnRunFlushRow : OpenClaim := { program := "ytohkoogmbfaceaa", sum := "02bfe30fc8af466f4ca80cf7fb952c116c4f0791754717157c9800d6c0899ab8", func := "loop.example/buttery/laws.FnRunFlush", spec := "fnRunFlush", unfollowed := true, recurses := true, apart := false }
def FnRunFlushSaid : Prop := fnRunFlushRow.holds Try.pinned (OpenSpec.ofChange fnRunFlushSpec)

/-- ITS FALSE NEIGHBOUR: 'it returns false'. Refute it at one input. -/
def fnRunFlushWrong : ChangeSpec := { name := "fnRunFlush", fn := fun _ => fun
  | [d] => { results := [.lit (.bool false)], args := [d] }
  | _ => none }
def FnRunFlushWrongFalsely : Prop := fnRunFlushRow.holds Try.pinned (OpenSpec.ofChange fnRunFlushWrong)

/-- 'laws.FnRunTorn': WHATEVER THE INPUT: true; the input reads as it did. -/
def fnRunTornSpec : ChangeSpec := { name := "fnRunTorn", fn := fun _ => fun
  | [d] => { results := [.lit (.bool true)], args := [d] }
  | _ => none }
def fnRunTornRow : OpenClaim := { program := "ytohkoogmbfaceaa", sum := "02bfe30fc8af466f4ca80cf7fb952c116c4f0791754717157c9800d6c0899ab8", func := "loop.example/buttery/laws.FnRunTorn", spec := "fnRunTorn", unfollowed := true, recurses := true, apart := false }
def FnRunTornSaid : Prop := fnRunTornRow.holds Try.pinned (OpenSpec.ofChange fnRunTornSpec)

/-- ITS FALSE NEIGHBOUR: 'it returns false'. Refute it at one input. -/
def fnRunTornWrong : ChangeSpec := { name := "fnRunTorn", fn := fun _ => fun
  | [d] => { results := [.lit (.bool false)], args := [d] }
  | _ => none }
def FnRunTornWrongFalsely : Prop := fnRunTornRow.holds Try.pinned (OpenSpec.ofChange fnRunTornWrong)

/-- 'laws.FnStepsOk': WHATEVER THE INPUT: true; the input reads as it did. -/
def fnStepsOkSpec : ChangeSpec := { name := "fnStepsOk", fn := fun _ => fun
  | [d1, d2] => { results := [.lit (.bool true)], args := [d1, d2] }
  | _ => none }
def fnStepsOkRow : OpenClaim := { program := "ytohkoogmbfaceaa", sum := "02bfe30fc8af466f4ca80cf7fb952c116c4f0791754717157c9800d6c0899ab8", func := "loop.example/buttery/laws.FnStepsOk", spec := "fnStepsOk", unfollowed := true, recurses := true, apart := false }
def FnStepsOkSaid : Prop := fnStepsOkRow.holds Try.pinned (OpenSpec.ofChange fnStepsOkSpec)

/-- ITS FALSE NEIGHBOUR: 'it returns false'. Refute it at one input. -/
def fnStepsOkWrong : ChangeSpec := { name := "fnStepsOk", fn := fun _ => fun
  | [d1, d2] => { results := [.lit (.bool false)], args := [d1, d2] }
  | _ => none }
def FnStepsOkWrongFalsely : Prop := fnStepsOkRow.holds Try.pinned (OpenSpec.ofChange fnStepsOkWrong)

/- THE SECOND FORM. 'bulk': how many values and letters a reading holds, each counted each time it is reached (what is shared counts as often as it is met; a slice's spare places count too). A statement '..UptoSaid' is the law's where the arguments, and the package variables that the reading takes, are together of bulk at most 1048576: NARROWER than '..Said'. Prove '..Said' where nothing that the law and all that it calls make is longer than what came in: it says more and counts as full. Else prove '..UptoSaid'. A law counts once. -/
mutual
def uptoBulk {H : Type} : DataW H → Nat
  | .lit (.string bytes) => bytes.length + 1
  | .lit _ => 1
  | .nil => 1
  | .ptr d => uptoBulk d + 1
  | .slice elems spare => uptoBulkAll elems + uptoBulkAll spare + 1
  | .agg parts => uptoBulkAll parts + 1
  | .iface _ d => uptoBulk d + 1
  | .map entries => uptoBulkEntries entries + 1
  | .held _ => 1
def uptoBulkAll {H : Type} : List (DataW H) → Nat
  | [] => 0
  | d :: r => uptoBulk d + uptoBulkAll r
def uptoBulkEntries {H : Type} : List (Lit × DataW H) → Nat
  | [] => 0
  | x :: r => uptoBulkEntry x + uptoBulkEntries r
def uptoBulkEntry {H : Type} : Lit × DataW H → Nat
  | (.string bytes, d) => bytes.length + uptoBulk d + 1
  | (_, d) => uptoBulk d + 1
 end
def uptoSmall : (H : Type) → List (DataW H) → Bool := fun _ ds => decide (uptoBulkAll ds ≤ 1048576)
def OpenSpec.upto (s : _root_.Go.ChangeSpec) : _root_.Go.OpenSpec := { _root_.Go.OpenSpec.ofChange s with cond := some uptoSmall }

/-- 'laws.FnRunCut', WHERE WHAT IT READS IS OF BULK AT MOST 1048576: true; the input reads as it did. -/
def fnRunCutUptoRow : OpenClaim := { program := "ytohkoogmbfaceaa", sum := "02bfe30fc8af466f4ca80cf7fb952c116c4f0791754717157c9800d6c0899ab8", func := "loop.example/buttery/laws.FnRunCut", spec := "fnRunCut", unfollowed := true, recurses := true, apart := false, narrowed := true }
def FnRunCutUptoSaid : Prop := fnRunCutUptoRow.holds Try.pinned (OpenSpec.upto fnRunCutSpec)

/-- 'laws.FnRunDisk', WHERE WHAT IT READS IS OF BULK AT MOST 1048576: true; the input reads as it did. -/
def fnRunDiskUptoRow : OpenClaim := { program := "ytohkoogmbfaceaa", sum := "02bfe30fc8af466f4ca80cf7fb952c116c4f0791754717157c9800d6c0899ab8", func := "loop.example/buttery/laws.FnRunDisk", spec := "fnRunDisk", unfollowed := true, recurses := true, apart := false, narrowed := true }
def FnRunDiskUptoSaid : Prop := fnRunDiskUptoRow.holds Try.pinned (OpenSpec.upto fnRunDiskSpec)

/-- 'laws.FnRunIdle', WHERE WHAT IT READS IS OF BULK AT MOST 1048576: true; the input reads as it did. -/
def fnRunIdleUptoRow : OpenClaim := { program := "ytohkoogmbfaceaa", sum := "02bfe30fc8af466f4ca80cf7fb952c116c4f0791754717157c9800d6c0899ab8", func := "loop.example/buttery/laws.FnRunIdle", spec := "fnRunIdle", unfollowed := true, recurses := true, apart := false, narrowed := true }
def FnRunIdleUptoSaid : Prop := fnRunIdleUptoRow.holds Try.pinned (OpenSpec.upto fnRunIdleSpec)

/-- 'laws.FnRunMany', WHERE WHAT IT READS IS OF BULK AT MOST 1048576: true; the input reads as it did. -/
def fnRunManyUptoRow : OpenClaim := { program := "ytohkoogmbfaceaa", sum := "02bfe30fc8af466f4ca80cf7fb952c116c4f0791754717157c9800d6c0899ab8", func := "loop.example/buttery/laws.FnRunMany", spec := "fnRunMany", unfollowed := true, recurses := true, apart := false, narrowed := true }
def FnRunManyUptoSaid : Prop := fnRunManyUptoRow.holds Try.pinned (OpenSpec.upto fnRunManySpec)

/-- 'laws.FnRunOrder', WHERE WHAT IT READS IS OF BULK AT MOST 1048576: true; the input reads as it did. -/
def fnRunOrderUptoRow : OpenClaim := { program := "ytohkoogmbfaceaa", sum := "02bfe30fc8af466f4ca80cf7fb952c116c4f0791754717157c9800d6c0899ab8", func := "loop.example/buttery/laws.FnRunOrder", spec := "fnRunOrder", unfollowed := true, recurses := true, apart := false, narrowed := true }
def FnRunOrderUptoSaid : Prop := fnRunOrderUptoRow.holds Try.pinned (OpenSpec.upto fnRunOrderSpec)

/-- 'laws.FnRunNew', WHERE WHAT IT READS IS OF BULK AT MOST 1048576: true; the input reads as it did. -/
def fnRunNewUptoRow : OpenClaim := { program := "ytohkoogmbfaceaa", sum := "02bfe30fc8af466f4ca80cf7fb952c116c4f0791754717157c9800d6c0899ab8", func := "loop.example/buttery/laws.FnRunNew", spec := "fnRunNew", unfollowed := true, recurses := true, apart := false, narrowed := true }
def FnRunNewUptoSaid : Prop := fnRunNewUptoRow.holds Try.pinned (OpenSpec.upto fnRunNewSpec)

/-- 'laws.FnRunPut', WHERE WHAT IT READS IS OF BULK AT MOST 1048576: true; the input reads as it did. -/
def fnRunPutUptoRow : OpenClaim := { program := "ytohkoogmbfaceaa", sum := "02bfe30fc8af466f4ca80cf7fb952c116c4f0791754717157c9800d6c0899ab8", func := "loop.example/buttery/laws.FnRunPut", spec := "fnRunPut", unfollowed := true, recurses := true, apart := false, narrowed := true }
def FnRunPutUptoSaid : Prop := fnRunPutUptoRow.holds Try.pinned (OpenSpec.upto fnRunPutSpec)

/-- 'laws.FnRunStays', WHERE WHAT IT READS IS OF BULK AT MOST 1048576: true; the input reads as it did. -/
def fnRunStaysUptoRow : OpenClaim := { program := "ytohkoogmbfaceaa", sum := "02bfe30fc8af466f4ca80cf7fb952c116c4f0791754717157c9800d6c0899ab8", func := "loop.example/buttery/laws.FnRunStays", spec := "fnRunStays", unfollowed := true, recurses := true, apart := false, narrowed := true }
def FnRunStaysUptoSaid : Prop := fnRunStaysUptoRow.holds Try.pinned (OpenSpec.upto fnRunStaysSpec)

/-- 'laws.FnRunFlush', WHERE WHAT IT READS IS OF BULK AT MOST 1048576: true; the input reads as it did. -/
def fnRunFlushUptoRow : OpenClaim := { program := "ytohkoogmbfaceaa", sum := "02bfe30fc8af466f4ca80cf7fb952c116c4f0791754717157c9800d6c0899ab8", func := "loop.example/buttery/laws.FnRunFlush", spec := "fnRunFlush", unfollowed := true, recurses := true, apart := false, narrowed := true }
def FnRunFlushUptoSaid : Prop := fnRunFlushUptoRow.holds Try.pinned (OpenSpec.upto fnRunFlushSpec)

/-- 'laws.FnRunTorn', WHERE WHAT IT READS IS OF BULK AT MOST 1048576: true; the input reads as it did. -/
def fnRunTornUptoRow : OpenClaim := { program := "ytohkoogmbfaceaa", sum := "02bfe30fc8af466f4ca80cf7fb952c116c4f0791754717157c9800d6c0899ab8", func := "loop.example/buttery/laws.FnRunTorn", spec := "fnRunTorn", unfollowed := true, recurses := true, apart := false, narrowed := true }
def FnRunTornUptoSaid : Prop := fnRunTornUptoRow.holds Try.pinned (OpenSpec.upto fnRunTornSpec)

/-- 'laws.FnStepsOk', WHERE WHAT IT READS IS OF BULK AT MOST 1048576: true; the input reads as it did. -/
def fnStepsOkUptoRow : OpenClaim := { program := "ytohkoogmbfaceaa", sum := "02bfe30fc8af466f4ca80cf7fb952c116c4f0791754717157c9800d6c0899ab8", func := "loop.example/buttery/laws.FnStepsOk", spec := "fnStepsOk", unfollowed := true, recurses := true, apart := false, narrowed := true }
def FnStepsOkUptoSaid : Prop := fnStepsOkUptoRow.holds Try.pinned (OpenSpec.upto fnStepsOkSpec)

end Rows
end Go.Proofs.Ytohkoogmbfaceaa
