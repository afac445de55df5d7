/- Plain functions: the reference's steps, and what happens. -/
import Derived.Test.YtfkjhnfbajflaaaC2
import Derived.Test.YtfkjhnfbajflaaaS4
namespace Go.Proofs.Ytfkjhnfbajflaaa
set_option linter.unusedVariables false
set_option linter.unusedSimpArgs false
def writeR (f : List Bk) (i : Nat) (r : Rc) (torn : Bool) : List Bk × Bool :=
  if clean (f.getD i zbk) = 0 ∨ seqIn f r.seq = true then (f, false)
  else (f.set i { f.getD i zbk with pages := (f.getD i zbk).pages.set (4 - clean (f.getD i zbk)) (if torn then ⟨2, rc0⟩ else ⟨1, r⟩) }, true)
def dirty (f : List Bk) (a : Int) : Bool := decide (0 < (last f a).seq) && decide ((last f a).kind = 1)
def readV (s : St) (a : Int) : Int := if 0 < (last s.flash a).seq then (last s.flash a).val else s.disk.getD (a - 1).toNat 0
def told (f : List Bk) (p : Pg) : Bool := live f p && decide (p.rc.kind = 1)
def tellP (p : Pg) : Sp := ⟨1, p.rc.addr, p.rc.val, 0, rc0⟩
def tells (f : List Bk) (ps : List Pg) : List Sp := (ps.filter (told f)).map tellP
/-- steps that make room, the block, and whether there is any -/
def room (f : List Bk) : List Sp × Int × Bool :=
  if (openB f).2 then ([], (openB f).1, true)
  else (tells f (f.getD (old f) zbk).pages ++ [⟨2, 0, 0, old f, rc0⟩], old f, decide ((f.getD (old f) zbk).worn < 200))
def wr (f : List Bk) (kind addr val : Int) : List Sp :=
  if (room f).2.2 = false ∨ recOk ⟨kind, next f, addr, val⟩ = false then [] else (room f).1 ++ [⟨3, 0, 0, (room f).2.1, ⟨kind, next f, addr, val⟩⟩]
def flush (s : St) (a : Int) : List Sp :=
  if addrB a = false ∨ dirty s.flash a = false then [] else
  if wr s.flash 2 a (readV s a) = [] then [] else ⟨1, a, readV s a, 0, rc0⟩ :: wr s.flash 2 a (readV s a)
def fill (s : St) (a : Int) : List Sp :=
  if addrB a = false ∨ 0 < (last s.flash a).seq then [] else wr s.flash 2 a (s.disk.getD (a - 1).toNat 0)
def stepsOf (s : St) (e : Ev) : List Sp :=
  if e.kind = 1 then wr s.flash 1 e.a e.b else if e.kind = 2 then flush s e.a else if e.kind = 3 then fill s e.a else []
def doStep (s : St) (x : Sp) (torn : Bool) : St :=
  if x.kind = 1 then (if torn then s else { s with disk := s.disk.set (x.addr - 1).toNat x.val })
  else if x.kind = 2 then { s with flash := (wipeR s.flash x.block.toNat torn).1 }
  else if x.kind = 3 then { s with flash := (writeR s.flash x.block.toNat x.rc torn).1 } else s
def doAllOf (s : St) (xs : List Sp) : St := xs.foldl (fun s x => doStep s x false) s
def doTo (s : St) (xs : List Sp) (cut : Int) (torn : Bool) : St :=
  if torn = true ∧ 0 ≤ cut ∧ cut < xs.length then doStep (doAllOf s (xs.take cut.toNat)) (xs.getD cut.toNat ⟨0, 0, 0, 0, rc0⟩) true else doAllOf s (xs.take cut.toNat)
def doFlush (s : St) (a : Int) : St := doTo s (flush s a) (flush s a).length false
def doEvery (s : St) : St := [1, 2, 3, 4, 5, 6].foldl doFlush s
def doEv (s : St) (e : Ev) : St := if e.kind = 4 then doEvery s else if e.c < 0 then s else doTo s (stepsOf s e) e.c e.torn
/-- shape: blocks and pages as many as there are to be, each page ok -/
def pgFine (p : Pg) : Prop := pageOk p = true
def bkFine (b : Bk) : Prop := b.pages.length = 4 ∧ 0 ≤ b.worn ∧ b.worn ≤ 200 ∧ ∀ p ∈ b.pages, pageOk p = true
def flFine (f : List Bk) : Prop := f.length = 4 ∧ ∀ b ∈ f, bkFine b
def stFine (s : St) : Prop := flFine s.flash ∧ s.disk.length = 6 ∧ ∀ v ∈ s.disk, 0 ≤ v ∧ v ≤ 9
/-- a step that can be done -/
def spFine (x : Sp) : Prop := (x.kind = 1 → 1 ≤ x.addr ∧ x.addr ≤ 6 ∧ 0 ≤ x.val ∧ x.val ≤ 9) ∧ (x.kind = 2 ∨ x.kind = 3 → 0 ≤ x.block ∧ x.block < 4) ∧ (x.kind = 3 → recOk x.rc = true)
end Go.Proofs.Ytfkjhnfbajflaaa
