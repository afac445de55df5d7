/- Plain functions: what the reference finds in a flash, and its steps. -/
import Derived.Test.YtlchlhjjoddocaaC2
namespace Go.Proofs.Ytlchlhjjoddocaa
set_option linter.unusedVariables false
set_option linter.unusedSimpArgs false
def isClean (p : Pg) : Bool := decide (p.state = 0)
def clean (b : Bk) : Nat := b.pages.countP isClean
def hasSeq (s : Int) (p : Pg) : Bool := decide (p.state = 1) && decide (p.rc.seq = s)
def seqIn (f : List Bk) (s : Int) : Bool := f.any fun b => b.pages.any (hasSeq s)
def lastStep (addr : Int) (o : Rc) (p : Pg) : Rc := if p.state = 1 ∧ p.rc.addr = addr ∧ o.seq < p.rc.seq then p.rc else o
def lastPs (addr : Int) (o : Rc) (ps : List Pg) : Rc := ps.foldl (lastStep addr) o
def last (f : List Bk) (addr : Int) : Rc := f.foldl (fun o b => lastPs addr o b.pages) rc0
def live (f : List Bk) (p : Pg) : Bool := decide (p.state = 1) && decide (last f p.rc.addr = p.rc)
def mostPs (n : Int) (ps : List Pg) : Int := ps.foldl (fun n p => max n p.rc.seq) n
def most (b : Bk) : Int := mostPs 0 b.pages
def leastStep (n : Int) (p : Pg) : Int := if 0 < p.rc.seq ∧ (n = 0 ∨ p.rc.seq < n) then p.rc.seq else n
def least (b : Bk) : Int := b.pages.foldl leastStep 0
def topSeq (f : List Bk) : Int := f.foldl (fun n b => max n (most b)) 0
def next (f : List Bk) : Int := topSeq f + 1
def openGo (f : List Bk) : Nat → Int → List Bk → Int × Bool
  | _, out, [] => (max out 0, decide (0 ≤ out))
  | i, out, b :: r => if 0 < clean b ∧ clean b < 4 then (i, true) else if 0 < clean b ∧ (out < 0 ∨ b.worn < (f.getD out.toNat zbk).worn) then openGo f (i + 1) i r else openGo f (i + 1) out r
def openB (f : List Bk) : Int × Bool := openGo f 0 (-1) f
def oldGo (f : List Bk) : Nat → Nat → List Bk → Nat
  | _, out, [] => out
  | i, out, b :: r => if most b < most (f.getD out zbk) then oldGo f (i + 1) i r else oldGo f (i + 1) out r
def old (f : List Bk) : Nat := oldGo f 1 0 (f.drop 1)
end Go.Proofs.Ytlchlhjjoddocaa
