/-
  No cell of these rows narrows 'for every input' (looked for: loops, veiled, ifaces, maps, wideKeys, modest, calm, conditions, laid).
  DERIVED. THE GIVEN ROWS OF THIS SEAT. 6 by the template 'for every input the law returns true; each argument reads behind the call as it read before'; 0 by the template 'total and deterministic' (their statements: YtlchlhjjoddocaaTotals.lean).
  GIVEN WITH THE SEED: the statements are not yours to turn. If you find one false, say at which input.
  Laid BY PROGRAM, IN A SANDBOX (cutbox-rows.mjs): the forced cells as the released guide's own fill.sh prints them over the translation 41bb90250a7d2805… (all of the seat's roots in one cut). By AI agents, Wed Nov 11 2026. No macro, syntax, notation, axiom, sorry.
-/
import Derived.Test.YtlchlhjjoddocaaChecked
import GoSem.Claim
import GoSem.ClaimJoined
import GoSem.ClaimMapViews
import Derived.JoinedTies
import Derived.KernelRfl
namespace Go.Proofs.Ytlchlhjjoddocaa
/- THE CELL 'sum', in the pinned program and in every row, IS THE sha256 OF THE DUMP (.gsa) THAT YtlchlhjjoddocaaProg.lean LOADS. Nothing in Lean hashes anything: it is a label: what it is worth is what the hold of that sum in a sandbox is worth. -/
noncomputable def Try.pinned : Pinned := { name := "ytlchlhjjoddocaa", sum := "41bb90250a7d2805cd9377134928336019bdec560590b4ff1c04bd71f38f37bf", checked := Try.checked }
namespace Rows
def none {H : Type} : Left H := { results := [], args := [] }

/-- 'laws.FnNextWipe': WHATEVER THE INPUT: true; the input reads as it did. -/
def fnNextWipeSpec : ChangeSpec := { name := "fnNextWipe", fn := fun _ => fun
  | [d1, d2] => { results := [.lit (.bool true)], args := [d1, d2] }
  | _ => none }
def fnNextWipeRow : OpenClaim := { program := "ytlchlhjjoddocaa", sum := "41bb90250a7d2805cd9377134928336019bdec560590b4ff1c04bd71f38f37bf", func := "loop.example/buttery/laws.FnNextWipe", spec := "fnNextWipe", unfollowed := true, recurses := true, apart := false }
def FnNextWipeSaid : Prop := fnNextWipeRow.holds Try.pinned (OpenSpec.ofChange fnNextWipeSpec)

/-- ITS FALSE NEIGHBOUR: 'it returns false'. Refute it at one input. -/
def fnNextWipeWrong : ChangeSpec := { name := "fnNextWipe", fn := fun _ => fun
  | [d1, d2] => { results := [.lit (.bool false)], args := [d1, d2] }
  | _ => none }
def FnNextWipeWrongFalsely : Prop := fnNextWipeRow.holds Try.pinned (OpenSpec.ofChange fnNextWipeWrong)

/-- 'laws.FnWipeAll': WHATEVER THE INPUT: true; the input reads as it did. -/
def fnWipeAllSpec : ChangeSpec := { name := "fnWipeAll", fn := fun _ => fun
  | [d] => { results := [.lit (.bool true)], args := [d] }
  | _ => none }
def fnWipeAllRow : OpenClaim := { program := "ytlchlhjjoddocaa", sum := "41bb90250a7d2805cd9377134928336019bdec560590b4ff1c04bd71f38f37bf", func := "loop.example/buttery/laws.FnWipeAll", spec := "fnWipeAll", apart := false }
def FnWipeAllSaid : Prop := fnWipeAllRow.holds Try.pinned (OpenSpec.ofChange fnWipeAllSpec)

/-- ITS FALSE NEIGHBOUR: 'it returns false'. Refute it at one input. -/
def fnWipeAllWrong : ChangeSpec := { name := "fnWipeAll", fn := fun _ => fun
  | [d] => { results := [.lit (.bool false)], args := [d] }
  | _ => none }
def FnWipeAllWrongFalsely : Prop := fnWipeAllRow.holds Try.pinned (OpenSpec.ofChange fnWipeAllWrong)

/-- 'laws.FnWipe': WHATEVER THE INPUT: true; the input reads as it did. -/
def fnWipeSpec : ChangeSpec := { name := "fnWipe", fn := fun _ => fun
  | [d] => { results := [.lit (.bool true)], args := [d] }
  | _ => none }
def fnWipeRow : OpenClaim := { program := "ytlchlhjjoddocaa", sum := "41bb90250a7d2805cd9377134928336019bdec560590b4ff1c04bd71f38f37bf", func := "loop.example/buttery/laws.FnWipe", spec := "fnWipe", apart := false }
def FnWipeSaid : Prop := fnWipeRow.holds Try.pinned (OpenSpec.ofChange fnWipeSpec)

/-- ITS FALSE NEIGHBOUR: 'it returns false'. Refute it at one input. -/
def fnWipeWrong : ChangeSpec := { name := "fnWipe", fn := fun _ => fun
  | [d] => { results := [.lit (.bool false)], args := [d] }
  | _ => none }
def FnWipeWrongFalsely : Prop := fnWipeRow.holds Try.pinned (OpenSpec.ofChange fnWipeWrong)

/-- 'laws.FnWipeAgain': WHATEVER THE INPUT: true; the input reads as it did. -/
def fnWipeAgainSpec : ChangeSpec := { name := "fnWipeAgain", fn := fun _ => fun
  | [d] => { results := [.lit (.bool true)], args := [d] }
  | _ => none }
def fnWipeAgainRow : OpenClaim := { program := "ytlchlhjjoddocaa", sum := "41bb90250a7d2805cd9377134928336019bdec560590b4ff1c04bd71f38f37bf", func := "loop.example/buttery/laws.FnWipeAgain", spec := "fnWipeAgain", apart := false }
def FnWipeAgainSaid : Prop := fnWipeAgainRow.holds Try.pinned (OpenSpec.ofChange fnWipeAgainSpec)

/-- ITS FALSE NEIGHBOUR: 'it returns false'. Refute it at one input. -/
def fnWipeAgainWrong : ChangeSpec := { name := "fnWipeAgain", fn := fun _ => fun
  | [d] => { results := [.lit (.bool false)], args := [d] }
  | _ => none }
def FnWipeAgainWrongFalsely : Prop := fnWipeAgainRow.holds Try.pinned (OpenSpec.ofChange fnWipeAgainWrong)

/-- 'laws.FnWornMax': WHATEVER THE INPUT: true; the input reads as it did. -/
def fnWornMaxSpec : ChangeSpec := { name := "fnWornMax", fn := fun _ => fun
  | [d1, d2] => { results := [.lit (.bool true)], args := [d1, d2] }
  | _ => none }
def fnWornMaxRow : OpenClaim := { program := "ytlchlhjjoddocaa", sum := "41bb90250a7d2805cd9377134928336019bdec560590b4ff1c04bd71f38f37bf", func := "loop.example/buttery/laws.FnWornMax", spec := "fnWornMax", apart := false }
def FnWornMaxSaid : Prop := fnWornMaxRow.holds Try.pinned (OpenSpec.ofChange fnWornMaxSpec)

/-- ITS FALSE NEIGHBOUR: 'it returns false'. Refute it at one input. -/
def fnWornMaxWrong : ChangeSpec := { name := "fnWornMax", fn := fun _ => fun
  | [d1, d2] => { results := [.lit (.bool false)], args := [d1, d2] }
  | _ => none }
def FnWornMaxWrongFalsely : Prop := fnWornMaxRow.holds Try.pinned (OpenSpec.ofChange fnWornMaxWrong)

/-- 'laws.FnOpenNone': WHATEVER THE INPUT: true; the input reads as it did. -/
def fnOpenNoneSpec : ChangeSpec := { name := "fnOpenNone", fn := fun _ => fun
  | [d] => { results := [.lit (.bool true)], args := [d] }
  | _ => none }
def fnOpenNoneRow : OpenClaim := { program := "ytlchlhjjoddocaa", sum := "41bb90250a7d2805cd9377134928336019bdec560590b4ff1c04bd71f38f37bf", func := "loop.example/buttery/laws.FnOpenNone", spec := "fnOpenNone", unfollowed := true, recurses := true, apart := false }
def FnOpenNoneSaid : Prop := fnOpenNoneRow.holds Try.pinned (OpenSpec.ofChange fnOpenNoneSpec)

/-- ITS FALSE NEIGHBOUR: 'it returns false'. Refute it at one input. -/
def fnOpenNoneWrong : ChangeSpec := { name := "fnOpenNone", fn := fun _ => fun
  | [d] => { results := [.lit (.bool false)], args := [d] }
  | _ => none }
def FnOpenNoneWrongFalsely : Prop := fnOpenNoneRow.holds Try.pinned (OpenSpec.ofChange fnOpenNoneWrong)

/- THE SECOND FORM. 'bulk': how many values and letters a reading holds, each counted each time it is reached (what is shared counts as often as it is met; a slice's spare places count too). A statement '..UptoSaid' is the law's where the arguments, and the package variables that the reading takes, are together of bulk at most 1048576: NARROWER than '..Said'. Prove '..Said' where nothing that the law and all that it calls make is longer than what came in: it says more and counts as full. Else prove '..UptoSaid'. A law counts once. -/
mutual
def uptoBulk {H : Type} : DataW H → Nat
  | .lit (.string bytes) => bytes.length + 1
  | .lit _ => 1
  | .nil => 1
  | .ptr d => uptoBulk d + 1
  | .slice elems spare => uptoBulkAll elems + uptoBulkAll spare + 1
  | .agg parts => uptoBulkAll parts + 1
  | .iface _ d => uptoBulk d + 1
  | .map entries => uptoBulkEntries entries + 1
  | .held _ => 1
def uptoBulkAll {H : Type} : List (DataW H) → Nat
  | [] => 0
  | d :: r => uptoBulk d + uptoBulkAll r
def uptoBulkEntries {H : Type} : List (Lit × DataW H) → Nat
  | [] => 0
  | x :: r => uptoBulkEntry x + uptoBulkEntries r
def uptoBulkEntry {H : Type} : Lit × DataW H → Nat
  | (.string bytes, d) => bytes.length + uptoBulk d + 1
  | (_, d) => uptoBulk d + 1
 end
def uptoSmall : (H : Type) → List (DataW H) → Bool := fun _ ds => decide (uptoBulkAll ds ≤ 1048576)
def OpenSpec.upto (s : _root_.Go.ChangeSpec) : _root_.Go.OpenSpec := { _root_.Go.OpenSpec.ofChange s with cond := some uptoSmall }

/-- 'laws.FnNextWipe', WHERE WHAT IT READS IS OF BULK AT MOST 1048576: true; the input reads as it did. -/
def fnNextWipeUptoRow : OpenClaim := { program := "ytlchlhjjoddocaa", sum := "41bb90250a7d2805cd9377134928336019bdec560590b4ff1c04bd71f38f37bf", func := "loop.example/buttery/laws.FnNextWipe", spec := "fnNextWipe", unfollowed := true, recurses := true, apart := false, narrowed := true }
def FnNextWipeUptoSaid : Prop := fnNextWipeUptoRow.holds Try.pinned (OpenSpec.upto fnNextWipeSpec)

/-- 'laws.FnWipeAll', WHERE WHAT IT READS IS OF BULK AT MOST 1048576: true; the input reads as it did. -/
def fnWipeAllUptoRow : OpenClaim := { program := "ytlchlhjjoddocaa", sum := "41bb90250a7d2805cd9377134928336019bdec560590b4ff1c04bd71f38f37bf", func := "loop.example/buttery/laws.FnWipeAll", spec := "fnWipeAll", apart := false, narrowed := true }
def FnWipeAllUptoSaid : Prop := fnWipeAllUptoRow.holds Try.pinned (OpenSpec.upto fnWipeAllSpec)

/-- 'laws.FnWipe', WHERE WHAT IT READS IS OF BULK AT MOST 1048576: true; the input reads as it did. -/
def fnWipeUptoRow : OpenClaim := { program := "ytlchlhjjoddocaa", sum := "41bb90250a7d2805cd9377134928336019bdec560590b4ff1c04bd71f38f37bf", func := "loop.example/buttery/laws.FnWipe", spec := "fnWipe", apart := false, narrowed := true }
def FnWipeUptoSaid : Prop := fnWipeUptoRow.holds Try.pinned (OpenSpec.upto fnWipeSpec)

/-- 'laws.FnWipeAgain', WHERE WHAT IT READS IS OF BULK AT MOST 1048576: true; the input reads as it did. -/
def fnWipeAgainUptoRow : OpenClaim := { program := "ytlchlhjjoddocaa", sum := "41bb90250a7d2805cd9377134928336019bdec560590b4ff1c04bd71f38f37bf", func := "loop.example/buttery/laws.FnWipeAgain", spec := "fnWipeAgain", apart := false, narrowed := true }
def FnWipeAgainUptoSaid : Prop := fnWipeAgainUptoRow.holds Try.pinned (OpenSpec.upto fnWipeAgainSpec)

/-- 'laws.FnWornMax', WHERE WHAT IT READS IS OF BULK AT MOST 1048576: true; the input reads as it did. -/
def fnWornMaxUptoRow : OpenClaim := { program := "ytlchlhjjoddocaa", sum := "41bb90250a7d2805cd9377134928336019bdec560590b4ff1c04bd71f38f37bf", func := "loop.example/buttery/laws.FnWornMax", spec := "fnWornMax", apart := false, narrowed := true }
def FnWornMaxUptoSaid : Prop := fnWornMaxUptoRow.holds Try.pinned (OpenSpec.upto fnWornMaxSpec)

/-- 'laws.FnOpenNone', WHERE WHAT IT READS IS OF BULK AT MOST 1048576: true; the input reads as it did. -/
def fnOpenNoneUptoRow : OpenClaim := { program := "ytlchlhjjoddocaa", sum := "41bb90250a7d2805cd9377134928336019bdec560590b4ff1c04bd71f38f37bf", func := "loop.example/buttery/laws.FnOpenNone", spec := "fnOpenNone", unfollowed := true, recurses := true, apart := false, narrowed := true }
def FnOpenNoneUptoSaid : Prop := fnOpenNoneUptoRow.holds Try.pinned (OpenSpec.upto fnOpenNoneSpec)

end Rows
end Go.Proofs.Ytlchlhjjoddocaa
