/- Plain functions: were the blocks written one behind the other: by the program, by the reference. -/
import Derived.Test.YtfkjhnfbajflaaaH9
import Derived.Test.YtfkjhnfbajflaaaH7
namespace Go.Proofs.Ytfkjhnfbajflaaa
set_option linter.unusedVariables false
set_option linter.unusedSimpArgs false
def spClash (a b : Span) : Bool := decide (0 < a.2) && (decide (0 < b.2) && (decide (b.1 ≤ a.2) && decide (a.1 ≤ b.2)))
def ordGo (ss : List Span) : Nat → Int → List Span → Option Int
  | _, n, [] => some n
  | i, n, a :: r => if (ss.take i).any (spClash a) = true then none else ordGo ss (i + 1) (max n a.2) r
def partOrd (ss : List Span) (n : Int) : Nat → Nat → List Bk → Bool
  | _, c, [] => decide (c ≤ 1)
  | i, c, b :: r => if partly b = true then (if 0 < (ss.getD i (0, 0)).2 ∧ (ss.getD i (0, 0)).2 < n then false else partOrd ss n (i + 1) (c + 1) r) else partOrd ss n (i + 1) c r
def ordI (ss : List Span) (f : List Bk) : Bool := match ordGo ss 0 0 ss with
  | none => false
  | some n => partOrd ss n 0 0 f
def findOrderI (f : List Bk) : Bool := if flashOk f = true then ordI (spOf (allFrom 0 f)) f else false
def bad1 (i k : Nat) (a b : Bk) : Bool := decide (i ≠ k) && (decide (0 < most a) && (decide (0 < most b) && (decide (least a < most b) && decide (least b < most a))))
def bad2 (i k : Nat) (a b : Bk) : Bool := decide (i ≠ k) && (partly a && (partly b || (decide (0 < most a) && decide (most a < most b))))
def rowOrd (i : Nat) (a : Bk) : Nat → List Bk → Bool
  | _, [] => true
  | k, b :: r => if bad1 i k a b = true ∨ bad2 i k a b = true then false else rowOrd i a (k + 1) r
def allOrd (f : List Bk) : Nat → List Bk → Bool
  | _, [] => true
  | i, a :: r => if rowOrd i a 0 f = true then allOrd f (i + 1) r else false
def findOrder (f : List Bk) : Bool := if flashOk f = true then allOrd f 0 f else false
end Go.Proofs.Ytfkjhnfbajflaaa
