/-
  No cell of these rows narrows 'for every input' (looked for: loops, veiled, ifaces, maps, wideKeys, modest, calm, conditions, laid).
  DERIVED. THE GIVEN ROWS OF THIS SEAT. 6 by the template 'for every input the law returns true; each argument reads behind the call as it read before'; 0 by the template 'total and deterministic' (their statements: YtfkjhnfbajflaaaTotals.lean).
  GIVEN WITH THE SEED: the statements are not yours to turn. If you find one false, say at which input.
  Laid BY PROGRAM, IN A SANDBOX (cutbox-rows.mjs): the forced cells as the released guide's own fill.sh prints them over the translation 6200a41bbe0d88e8… (all of the seat's roots in one cut). By AI agents, Wed Nov 11 2026. No macro, syntax, notation, axiom, sorry.
-/
import Derived.Test.YtfkjhnfbajflaaaChecked
import GoSem.Claim
import GoSem.ClaimJoined
import GoSem.ClaimMapViews
import Derived.JoinedTies
import Derived.KernelRfl
namespace Go.Proofs.Ytfkjhnfbajflaaa
/- THE CELL 'sum', in the pinned program and in every row, IS THE sha256 OF THE DUMP (.gsa) THAT YtfkjhnfbajflaaaProg.lean LOADS. Nothing in Lean hashes anything: it is a label: what it is worth is what the hold of that sum in a sandbox is worth. -/
noncomputable def Try.pinned : Pinned := { name := "ytfkjhnfbajflaaa", sum := "6200a41bbe0d88e811f3ab89db3ad84267eef7f549fb93895efe367069f41b12", checked := Try.checked }
namespace Rows
def none {H : Type} : Left H := { results := [], args := [] }

/-- 'laws.FnOpenNone': WHATEVER THE INPUT: true; the input reads as it did. -/
def fnOpenNoneSpec : ChangeSpec := { name := "fnOpenNone", fn := fun _ => fun
  | [d] => { results := [.lit (.bool true)], args := [d] }
  | _ => none }
def fnOpenNoneRow : OpenClaim := { program := "ytfkjhnfbajflaaa", sum := "6200a41bbe0d88e811f3ab89db3ad84267eef7f549fb93895efe367069f41b12", func := "loop.example/buttery/laws.FnOpenNone", spec := "fnOpenNone", unfollowed := true, recurses := true, apart := false }
def FnOpenNoneSaid : Prop := fnOpenNoneRow.holds Try.pinned (OpenSpec.ofChange fnOpenNoneSpec)

/-- ITS FALSE NEIGHBOUR: 'it returns false'. Refute it at one input. -/
def fnOpenNoneWrong : ChangeSpec := { name := "fnOpenNone", fn := fun _ => fun
  | [d] => { results := [.lit (.bool false)], args := [d] }
  | _ => none }
def FnOpenNoneWrongFalsely : Prop := fnOpenNoneRow.holds Try.pinned (OpenSpec.ofChange fnOpenNoneWrong)

/-- 'laws.FnOldNext': WHATEVER THE INPUT: true; the input reads as it did. -/
def fnOldNextSpec : ChangeSpec := { name := "fnOldNext", fn := fun _ => fun
  | [d] => { results := [.lit (.bool true)], args := [d] }
  | _ => none }
def fnOldNextRow : OpenClaim := { program := "ytfkjhnfbajflaaa", sum := "6200a41bbe0d88e811f3ab89db3ad84267eef7f549fb93895efe367069f41b12", func := "loop.example/buttery/laws.FnOldNext", spec := "fnOldNext", unfollowed := true, recurses := true, apart := false }
def FnOldNextSaid : Prop := fnOldNextRow.holds Try.pinned (OpenSpec.ofChange fnOldNextSpec)

/-- ITS FALSE NEIGHBOUR: 'it returns false'. Refute it at one input. -/
def fnOldNextWrong : ChangeSpec := { name := "fnOldNext", fn := fun _ => fun
  | [d] => { results := [.lit (.bool false)], args := [d] }
  | _ => none }
def FnOldNextWrongFalsely : Prop := fnOldNextRow.holds Try.pinned (OpenSpec.ofChange fnOldNextWrong)

/-- 'laws.FnOrderStep': WHATEVER THE INPUT: true; the input reads as it did. -/
def fnOrderStepSpec : ChangeSpec := { name := "fnOrderStep", fn := fun _ => fun
  | [d1, d2] => { results := [.lit (.bool true)], args := [d1, d2] }
  | _ => none }
def fnOrderStepRow : OpenClaim := { program := "ytfkjhnfbajflaaa", sum := "6200a41bbe0d88e811f3ab89db3ad84267eef7f549fb93895efe367069f41b12", func := "loop.example/buttery/laws.FnOrderStep", spec := "fnOrderStep", unfollowed := true, recurses := true, apart := false }
def FnOrderStepSaid : Prop := fnOrderStepRow.holds Try.pinned (OpenSpec.ofChange fnOrderStepSpec)

/-- ITS FALSE NEIGHBOUR: 'it returns false'. Refute it at one input. -/
def fnOrderStepWrong : ChangeSpec := { name := "fnOrderStep", fn := fun _ => fun
  | [d1, d2] => { results := [.lit (.bool false)], args := [d1, d2] }
  | _ => none }
def FnOrderStepWrongFalsely : Prop := fnOrderStepRow.holds Try.pinned (OpenSpec.ofChange fnOrderStepWrong)

/-- 'laws.FnAll': WHATEVER THE INPUT: true; the input reads as it did. -/
def fnAllSpec : ChangeSpec := { name := "fnAll", fn := fun _ => fun
  | [d] => { results := [.lit (.bool true)], args := [d] }
  | _ => none }
def fnAllRow : OpenClaim := { program := "ytfkjhnfbajflaaa", sum := "6200a41bbe0d88e811f3ab89db3ad84267eef7f549fb93895efe367069f41b12", func := "loop.example/buttery/laws.FnAll", spec := "fnAll", unfollowed := true, recurses := true, apart := false }
def FnAllSaid : Prop := fnAllRow.holds Try.pinned (OpenSpec.ofChange fnAllSpec)

/-- ITS FALSE NEIGHBOUR: 'it returns false'. Refute it at one input. -/
def fnAllWrong : ChangeSpec := { name := "fnAll", fn := fun _ => fun
  | [d] => { results := [.lit (.bool false)], args := [d] }
  | _ => none }
def FnAllWrongFalsely : Prop := fnAllRow.holds Try.pinned (OpenSpec.ofChange fnAllWrong)

/-- 'laws.FnStoreNew': WHATEVER THE INPUT: true; the input reads as it did. -/
def fnStoreNewSpec : ChangeSpec := { name := "fnStoreNew", fn := fun _ => fun
  | [d] => { results := [.lit (.bool true)], args := [d] }
  | _ => none }
def fnStoreNewRow : OpenClaim := { program := "ytfkjhnfbajflaaa", sum := "6200a41bbe0d88e811f3ab89db3ad84267eef7f549fb93895efe367069f41b12", func := "loop.example/buttery/laws.FnStoreNew", spec := "fnStoreNew", unfollowed := true, recurses := true, apart := false }
def FnStoreNewSaid : Prop := fnStoreNewRow.holds Try.pinned (OpenSpec.ofChange fnStoreNewSpec)

/-- ITS FALSE NEIGHBOUR: 'it returns false'. Refute it at one input. -/
def fnStoreNewWrong : ChangeSpec := { name := "fnStoreNew", fn := fun _ => fun
  | [d] => { results := [.lit (.bool false)], args := [d] }
  | _ => none }
def FnStoreNewWrongFalsely : Prop := fnStoreNewRow.holds Try.pinned (OpenSpec.ofChange fnStoreNewWrong)

/-- 'laws.FnReadDisk': WHATEVER THE INPUT: true; the input reads as it did. -/
def fnReadDiskSpec : ChangeSpec := { name := "fnReadDisk", fn := fun _ => fun
  | [d] => { results := [.lit (.bool true)], args := [d] }
  | _ => none }
def fnReadDiskRow : OpenClaim := { program := "ytfkjhnfbajflaaa", sum := "6200a41bbe0d88e811f3ab89db3ad84267eef7f549fb93895efe367069f41b12", func := "loop.example/buttery/laws.FnReadDisk", spec := "fnReadDisk", unfollowed := true, recurses := true, apart := false }
def FnReadDiskSaid : Prop := fnReadDiskRow.holds Try.pinned (OpenSpec.ofChange fnReadDiskSpec)

/-- ITS FALSE NEIGHBOUR: 'it returns false'. Refute it at one input. -/
def fnReadDiskWrong : ChangeSpec := { name := "fnReadDisk", fn := fun _ => fun
  | [d] => { results := [.lit (.bool false)], args := [d] }
  | _ => none }
def FnReadDiskWrongFalsely : Prop := fnReadDiskRow.holds Try.pinned (OpenSpec.ofChange fnReadDiskWrong)

/- THE SECOND FORM. 'bulk': how many values and letters a reading holds, each counted each time it is reached (what is shared counts as often as it is met; a slice's spare places count too). A statement '..UptoSaid' is the law's where the arguments, and the package variables that the reading takes, are together of bulk at most 1048576: NARROWER than '..Said'. Prove '..Said' where nothing that the law and all that it calls make is longer than what came in: it says more and counts as full. Else prove '..UptoSaid'. A law counts once. -/
mutual
def uptoBulk {H : Type} : DataW H → Nat
  | .lit (.string bytes) => bytes.length + 1
  | .lit _ => 1
  | .nil => 1
  | .ptr d => uptoBulk d + 1
  | .slice elems spare => uptoBulkAll elems + uptoBulkAll spare + 1
  | .agg parts => uptoBulkAll parts + 1
  | .iface _ d => uptoBulk d + 1
  | .map entries => uptoBulkEntries entries + 1
  | .held _ => 1
def uptoBulkAll {H : Type} : List (DataW H) → Nat
  | [] => 0
  | d :: r => uptoBulk d + uptoBulkAll r
def uptoBulkEntries {H : Type} : List (Lit × DataW H) → Nat
  | [] => 0
  | x :: r => uptoBulkEntry x + uptoBulkEntries r
def uptoBulkEntry {H : Type} : Lit × DataW H → Nat
  | (.string bytes, d) => bytes.length + uptoBulk d + 1
  | (_, d) => uptoBulk d + 1
 end
def uptoSmall : (H : Type) → List (DataW H) → Bool := fun _ ds => decide (uptoBulkAll ds ≤ 1048576)
def OpenSpec.upto (s : _root_.Go.ChangeSpec) : _root_.Go.OpenSpec := { _root_.Go.OpenSpec.ofChange s with cond := some uptoSmall }

/-- 'laws.FnOpenNone', WHERE WHAT IT READS IS OF BULK AT MOST 1048576: true; the input reads as it did. -/
def fnOpenNoneUptoRow : OpenClaim := { program := "ytfkjhnfbajflaaa", sum := "6200a41bbe0d88e811f3ab89db3ad84267eef7f549fb93895efe367069f41b12", func := "loop.example/buttery/laws.FnOpenNone", spec := "fnOpenNone", unfollowed := true, recurses := true, apart := false, narrowed := true }
def FnOpenNoneUptoSaid : Prop := fnOpenNoneUptoRow.holds Try.pinned (OpenSpec.upto fnOpenNoneSpec)

/-- 'laws.FnOldNext', WHERE WHAT IT READS IS OF BULK AT MOST 1048576: true; the input reads as it did. -/
def fnOldNextUptoRow : OpenClaim := { program := "ytfkjhnfbajflaaa", sum := "6200a41bbe0d88e811f3ab89db3ad84267eef7f549fb93895efe367069f41b12", func := "loop.example/buttery/laws.FnOldNext", spec := "fnOldNext", unfollowed := true, recurses := true, apart := false, narrowed := true }
def FnOldNextUptoSaid : Prop := fnOldNextUptoRow.holds Try.pinned (OpenSpec.upto fnOldNextSpec)

/-- 'laws.FnOrderStep', WHERE WHAT IT READS IS OF BULK AT MOST 1048576: true; the input reads as it did. -/
def fnOrderStepUptoRow : OpenClaim := { program := "ytfkjhnfbajflaaa", sum := "6200a41bbe0d88e811f3ab89db3ad84267eef7f549fb93895efe367069f41b12", func := "loop.example/buttery/laws.FnOrderStep", spec := "fnOrderStep", unfollowed := true, recurses := true, apart := false, narrowed := true }
def FnOrderStepUptoSaid : Prop := fnOrderStepUptoRow.holds Try.pinned (OpenSpec.upto fnOrderStepSpec)

/-- 'laws.FnAll', WHERE WHAT IT READS IS OF BULK AT MOST 1048576: true; the input reads as it did. -/
def fnAllUptoRow : OpenClaim := { program := "ytfkjhnfbajflaaa", sum := "6200a41bbe0d88e811f3ab89db3ad84267eef7f549fb93895efe367069f41b12", func := "loop.example/buttery/laws.FnAll", spec := "fnAll", unfollowed := true, recurses := true, apart := false, narrowed := true }
def FnAllUptoSaid : Prop := fnAllUptoRow.holds Try.pinned (OpenSpec.upto fnAllSpec)

/-- 'laws.FnStoreNew', WHERE WHAT IT READS IS OF BULK AT MOST 1048576: true; the input reads as it did. -/
def fnStoreNewUptoRow : OpenClaim := { program := "ytfkjhnfbajflaaa", sum := "6200a41bbe0d88e811f3ab89db3ad84267eef7f549fb93895efe367069f41b12", func := "loop.example/buttery/laws.FnStoreNew", spec := "fnStoreNew", unfollowed := true, recurses := true, apart := false, narrowed := true }
def FnStoreNewUptoSaid : Prop := fnStoreNewUptoRow.holds Try.pinned (OpenSpec.upto fnStoreNewSpec)

/-- 'laws.FnReadDisk', WHERE WHAT IT READS IS OF BULK AT MOST 1048576: true; the input reads as it did. -/
def fnReadDiskUptoRow : OpenClaim := { program := "ytfkjhnfbajflaaa", sum := "6200a41bbe0d88e811f3ab89db3ad84267eef7f549fb93895efe367069f41b12", func := "loop.example/buttery/laws.FnReadDisk", spec := "fnReadDisk", unfollowed := true, recurses := true, apart := false, narrowed := true }
def FnReadDiskUptoSaid : Prop := fnReadDiskUptoRow.holds Try.pinned (OpenSpec.upto fnReadDiskSpec)

end Rows
end Go.Proofs.Ytfkjhnfbajflaaa
