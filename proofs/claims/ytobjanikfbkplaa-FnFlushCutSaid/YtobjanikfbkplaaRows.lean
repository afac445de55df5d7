/-
  No cell of these rows narrows 'for every input' (looked for: loops, veiled, ifaces, maps, wideKeys, modest, calm, conditions, laid).
  DERIVED. THE GIVEN ROWS OF THIS SEAT. 3 by the template 'for every input the law returns true; each argument reads behind the call as it read before'; 0 by the template 'total and deterministic' (their statements: YtobjanikfbkplaaTotals.lean).
  GIVEN WITH THE SEED: the statements are not yours to turn. If you find one false, say at which input.
  Laid BY PROGRAM, IN A SANDBOX (cutbox-rows.mjs): the forced cells as the released guide's own fill.sh prints them over the translation a454da28ee93274a… (all of the seat's roots in one cut). By AI agents, Wed Nov 11 2026. No macro, syntax, notation, axiom, sorry.
-/
import Derived.Test.YtobjanikfbkplaaChecked
import GoSem.Claim
import GoSem.ClaimJoined
import GoSem.ClaimMapViews
import Derived.JoinedTies
import Derived.KernelRfl
namespace Go.Proofs.Ytobjanikfbkplaa
/- THE CELL 'sum', in the pinned program and in every row, IS THE sha256 OF THE DUMP (.gsa) THAT YtobjanikfbkplaaProg.lean LOADS. Nothing in Lean hashes anything: it is a label: what it is worth is what the hold of that sum in a sandbox is worth. -/
noncomputable def Try.pinned : Pinned := { name := "ytobjanikfbkplaa", sum := "a454da28ee93274a94bfb45ef43067f6f0d5b23e0cfb7d02f22b2a23791efefa", checked := Try.checked }
namespace Rows
def none {H : Type} : Left H := { results := [], args := [] }

/-- 'laws.FnPutAll': WHATEVER THE INPUT: true; the input reads as it did. -/
def fnPutAllSpec : ChangeSpec := { name := "fnPutAll", fn := fun _ => fun
  | [d] => { results := [.lit (.bool true)], args := [d] }
  | _ => none }
def fnPutAllRow : OpenClaim := { program := "ytobjanikfbkplaa", sum := "a454da28ee93274a94bfb45ef43067f6f0d5b23e0cfb7d02f22b2a23791efefa", func := "loop.example/buttery/laws.FnPutAll", spec := "fnPutAll", unfollowed := true, recurses := true, apart := false }
def FnPutAllSaid : Prop := fnPutAllRow.holds Try.pinned (OpenSpec.ofChange fnPutAllSpec)

/-- ITS FALSE NEIGHBOUR: 'it returns false'. Refute it at one input. -/
def fnPutAllWrong : ChangeSpec := { name := "fnPutAll", fn := fun _ => fun
  | [d] => { results := [.lit (.bool false)], args := [d] }
  | _ => none }
def FnPutAllWrongFalsely : Prop := fnPutAllRow.holds Try.pinned (OpenSpec.ofChange fnPutAllWrong)

/-- 'laws.FnPutCut': WHATEVER THE INPUT: true; the input reads as it did. -/
def fnPutCutSpec : ChangeSpec := { name := "fnPutCut", fn := fun _ => fun
  | [d1, d2] => { results := [.lit (.bool true)], args := [d1, d2] }
  | _ => none }
def fnPutCutRow : OpenClaim := { program := "ytobjanikfbkplaa", sum := "a454da28ee93274a94bfb45ef43067f6f0d5b23e0cfb7d02f22b2a23791efefa", func := "loop.example/buttery/laws.FnPutCut", spec := "fnPutCut", unfollowed := true, recurses := true, apart := false }
def FnPutCutSaid : Prop := fnPutCutRow.holds Try.pinned (OpenSpec.ofChange fnPutCutSpec)

/-- ITS FALSE NEIGHBOUR: 'it returns false'. Refute it at one input. -/
def fnPutCutWrong : ChangeSpec := { name := "fnPutCut", fn := fun _ => fun
  | [d1, d2] => { results := [.lit (.bool false)], args := [d1, d2] }
  | _ => none }
def FnPutCutWrongFalsely : Prop := fnPutCutRow.holds Try.pinned (OpenSpec.ofChange fnPutCutWrong)

/-- 'laws.FnFlushCut': WHATEVER THE INPUT: true; the input reads as it did. -/
def fnFlushCutSpec : ChangeSpec := { name := "fnFlushCut", fn := fun _ => fun
  | [d1, d2] => { results := [.lit (.bool true)], args := [d1, d2] }
  | _ => none }
def fnFlushCutRow : OpenClaim := { program := "ytobjanikfbkplaa", sum := "a454da28ee93274a94bfb45ef43067f6f0d5b23e0cfb7d02f22b2a23791efefa", func := "loop.example/buttery/laws.FnFlushCut", spec := "fnFlushCut", unfollowed := true, recurses := true, apart := false }
def FnFlushCutSaid : Prop := fnFlushCutRow.holds Try.pinned (OpenSpec.ofChange fnFlushCutSpec)

/-- ITS FALSE NEIGHBOUR: 'it returns false'. Refute it at one input. -/
def fnFlushCutWrong : ChangeSpec := { name := "fnFlushCut", fn := fun _ => fun
  | [d1, d2] => { results := [.lit (.bool false)], args := [d1, d2] }
  | _ => none }
def FnFlushCutWrongFalsely : Prop := fnFlushCutRow.holds Try.pinned (OpenSpec.ofChange fnFlushCutWrong)

/- THE SECOND FORM. 'bulk': how many values and letters a reading holds, each counted each time it is reached (what is shared counts as often as it is met; a slice's spare places count too). A statement '..UptoSaid' is the law's where the arguments, and the package variables that the reading takes, are together of bulk at most 1048576: NARROWER than '..Said'. Prove '..Said' where nothing that the law and all that it calls make is longer than what came in: it says more and counts as full. Else prove '..UptoSaid'. A law counts once. -/
mutual
def uptoBulk {H : Type} : DataW H → Nat
  | .lit (.string bytes) => bytes.length + 1
  | .lit _ => 1
  | .nil => 1
  | .ptr d => uptoBulk d + 1
  | .slice elems spare => uptoBulkAll elems + uptoBulkAll spare + 1
  | .agg parts => uptoBulkAll parts + 1
  | .iface _ d => uptoBulk d + 1
  | .map entries => uptoBulkEntries entries + 1
  | .held _ => 1
def uptoBulkAll {H : Type} : List (DataW H) → Nat
  | [] => 0
  | d :: r => uptoBulk d + uptoBulkAll r
def uptoBulkEntries {H : Type} : List (Lit × DataW H) → Nat
  | [] => 0
  | x :: r => uptoBulkEntry x + uptoBulkEntries r
def uptoBulkEntry {H : Type} : Lit × DataW H → Nat
  | (.string bytes, d) => bytes.length + uptoBulk d + 1
  | (_, d) => uptoBulk d + 1
 end
def uptoSmall : (H : Type) → List (DataW H) → Bool := fun _ ds => decide (uptoBulkAll ds ≤ 1048576)
def OpenSpec.upto (s : _root_.Go.ChangeSpec) : _root_.Go.OpenSpec := { _root_.Go.OpenSpec.ofChange s with cond := some uptoSmall }

/-- 'laws.FnPutAll', WHERE WHAT IT READS IS OF BULK AT MOST 1048576: true; the input reads as it did. -/
def fnPutAllUptoRow : OpenClaim := { program := "ytobjanikfbkplaa", sum := "a454da28ee93274a94bfb45ef43067f6f0d5b23e0cfb7d02f22b2a23791efefa", func := "loop.example/buttery/laws.FnPutAll", spec := "fnPutAll", unfollowed := true, recurses := true, apart := false, narrowed := true }
def FnPutAllUptoSaid : Prop := fnPutAllUptoRow.holds Try.pinned (OpenSpec.upto fnPutAllSpec)

/-- 'laws.FnPutCut', WHERE WHAT IT READS IS OF BULK AT MOST 1048576: true; the input reads as it did. -/
def fnPutCutUptoRow : OpenClaim := { program := "ytobjanikfbkplaa", sum := "a454da28ee93274a94bfb45ef43067f6f0d5b23e0cfb7d02f22b2a23791efefa", func := "loop.example/buttery/laws.FnPutCut", spec := "fnPutCut", unfollowed := true, recurses := true, apart := false, narrowed := true }
def FnPutCutUptoSaid : Prop := fnPutCutUptoRow.holds Try.pinned (OpenSpec.upto fnPutCutSpec)

/-- 'laws.FnFlushCut', WHERE WHAT IT READS IS OF BULK AT MOST 1048576: true; the input reads as it did. -/
def fnFlushCutUptoRow : OpenClaim := { program := "ytobjanikfbkplaa", sum := "a454da28ee93274a94bfb45ef43067f6f0d5b23e0cfb7d02f22b2a23791efefa", func := "loop.example/buttery/laws.FnFlushCut", spec := "fnFlushCut", unfollowed := true, recurses := true, apart := false, narrowed := true }
def FnFlushCutUptoSaid : Prop := fnFlushCutUptoRow.holds Try.pinned (OpenSpec.upto fnFlushCutSpec)

end Rows
end Go.Proofs.Ytobjanikfbkplaa
