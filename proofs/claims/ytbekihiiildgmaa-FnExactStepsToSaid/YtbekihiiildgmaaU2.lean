/- What the laws' walks share: words, plain laws, and the walks of functions, part 2. -/
import Derived.Deep.RegionHeld3
import Derived.Deep.AppendLies
import Derived.Deep.Onto
import Derived.OwnWalk
import Derived.BigQuiet
import Derived.Deep.RegionWith
import Derived.RangeFuncNested
import Derived.RangeFuncCalls
import Derived.OrdersIn
import Derived.Test.YtbekihiiildgmaaU1
namespace Go.Proofs.Ytbekihiiildgmaa
set_option linter.unusedVariables false
set_option linter.unusedSimpArgs false
def writeR (f : List Bk) (i : Nat) (r : Rc) (torn : Bool) : List Bk × Bool :=
  if clean (f.getD i zbk) = 0 ∨ seqIn f r.seq = true then (f, false)
  else (f.set i { f.getD i zbk with pages := (f.getD i zbk).pages.set (4 - clean (f.getD i zbk)) (if torn then ⟨2, rc0⟩ else ⟨1, r⟩) }, true)
def dirty (f : List Bk) (a : Int) : Bool := decide (0 < (last f a).seq) && decide ((last f a).kind = 1)
def readV (s : St) (a : Int) : Int := if 0 < (last s.flash a).seq then (last s.flash a).val else s.disk.getD (a - 1).toNat 0
def told (f : List Bk) (p : Pg) : Bool := live f p && decide (p.rc.kind = 1)
def tellP (p : Pg) : Sp := ⟨1, p.rc.addr, p.rc.val, 0, rc0⟩
def tells (f : List Bk) (ps : List Pg) : List Sp := (ps.filter (told f)).map tellP
/-- steps that make room, the block, and whether there is any -/
def room (f : List Bk) : List Sp × Int × Bool :=
  if (openB f).2 then ([], (openB f).1, true)
  else (tells f (f.getD (old f) zbk).pages ++ [⟨2, 0, 0, old f, rc0⟩], old f, decide ((f.getD (old f) zbk).worn < 200))
def wr (f : List Bk) (kind addr val : Int) : List Sp :=
  if (room f).2.2 = false ∨ recOk ⟨kind, next f, addr, val⟩ = false then [] else (room f).1 ++ [⟨3, 0, 0, (room f).2.1, ⟨kind, next f, addr, val⟩⟩]
def flush (s : St) (a : Int) : List Sp :=
  if addrB a = false ∨ dirty s.flash a = false then [] else
  if wr s.flash 2 a (readV s a) = [] then [] else ⟨1, a, readV s a, 0, rc0⟩ :: wr s.flash 2 a (readV s a)
def fill (s : St) (a : Int) : List Sp :=
  if addrB a = false ∨ 0 < (last s.flash a).seq then [] else wr s.flash 2 a (s.disk.getD (a - 1).toNat 0)
def stepsOf (s : St) (e : Ev) : List Sp :=
  if e.kind = 1 then wr s.flash 1 e.a e.b else if e.kind = 2 then flush s e.a else if e.kind = 3 then fill s e.a else []
def doStep (s : St) (x : Sp) (torn : Bool) : St :=
  if x.kind = 1 then (if torn then s else { s with disk := s.disk.set (x.addr - 1).toNat x.val })
  else if x.kind = 2 then { s with flash := (wipeR s.flash x.block.toNat torn).1 }
  else if x.kind = 3 then { s with flash := (writeR s.flash x.block.toNat x.rc torn).1 } else s
def doAllOf (s : St) (xs : List Sp) : St := xs.foldl (fun s x => doStep s x false) s
def doTo (s : St) (xs : List Sp) (cut : Int) (torn : Bool) : St :=
  if torn = true ∧ 0 ≤ cut ∧ cut < xs.length then doStep (doAllOf s (xs.take cut.toNat)) (xs.getD cut.toNat ⟨0, 0, 0, 0, rc0⟩) true else doAllOf s (xs.take cut.toNat)
def doFlush (s : St) (a : Int) : St := doTo s (flush s a) (flush s a).length false
def doEvery (s : St) : St := [1, 2, 3, 4, 5, 6].foldl doFlush s
def doEv (s : St) (e : Ev) : St := if e.kind = 4 then doEvery s else if e.c < 0 then s else doTo s (stepsOf s e) e.c e.torn
def bkFine (b : Bk) : Prop := b.pages.length = 4 ∧ 0 ≤ b.worn ∧ b.worn ≤ 200 ∧ ∀ p ∈ b.pages, pageOk p = true
def flFine (f : List Bk) : Prop := f.length = 4 ∧ ∀ b ∈ f, bkFine b
def stFine (s : St) : Prop := flFine s.flash ∧ s.disk.length = 6 ∧ ∀ v ∈ s.disk, 0 ≤ v ∧ v ≤ 9
/-- a step that can be done -/
def spFine (x : Sp) : Prop := (x.kind = 1 → 1 ≤ x.addr ∧ x.addr ≤ 6 ∧ 0 ≤ x.val ∧ x.val ≤ 9) ∧ (x.kind = 2 ∨ x.kind = 3 → 0 ≤ x.block ∧ x.block < 4) ∧ (x.kind = 3 → recOk x.rc = true)
end Go.Proofs.Ytbekihiiildgmaa
namespace Go.Proofs.Ytbekihiiildgmaa
set_option linter.unusedVariables false
set_option linter.unusedSimpArgs false
theorem mem_set {α : Type} {l : List α} {i : Nat} {x y : α} (h : y ∈ l.set i x) : y ∈ l ∨ y = x := List.mem_or_eq_of_mem_set h
theorem pg0_ok : pageOk ⟨0, rc0⟩ = true := by decide
theorem torn_ok : pageOk ⟨2, rc0⟩ = true := by decide
theorem put_ok {r : Rc} (h : recOk r = true) : pageOk ⟨1, r⟩ = true := by unfold pageOk; simpa using h
theorem flFine_get {f : List Bk} (h : flFine f) {i : Nat} (hi : i < 4) : bkFine (f.getD i zbk) := by
  have hl : i < f.length := by have := h.1; omega
  rw [List.getD_eq_getElem?_getD, List.getElem?_eq_getElem hl]
  exact h.2 _ (List.getElem_mem hl)
theorem flFine_set {f : List Bk} {b : Bk} (h : flFine f) (hb : bkFine b) (i : Nat) : flFine (f.set i b) :=
  ⟨by rw [List.length_set]; exact h.1, fun c hc => by rcases mem_set hc with hc | rfl; exact h.2 c hc; exact hb⟩
theorem wipeR_fine {f : List Bk} (h : flFine f) {i : Nat} (hi : i < 4) (torn : Bool) : flFine (wipeR f i torn).1 := by
  have hb := flFine_get h hi
  unfold wipeR wipe
  split
  · exact h
  · rename_i hw
    refine flFine_set h ⟨by simp, by have := hb.2.1; show 0 ≤ (f.getD i zbk).worn + 1; omega, by show (f.getD i zbk).worn + 1 ≤ 200; omega, fun p hp => ?_⟩ i
    have := List.eq_of_mem_replicate hp
    subst this
    cases torn
    · exact pg0_ok
    · exact torn_ok
theorem writeR_fine {f : List Bk} (h : flFine f) {i : Nat} (hi : i < 4) {r : Rc} (hr : recOk r = true) (torn : Bool) : flFine (writeR f i r torn).1 := by
  have hb := flFine_get h hi
  unfold writeR
  split
  · exact h
  · have key : bkFine ⟨(f.getD i zbk).pages.set (4 - clean (f.getD i zbk)) (if torn then ⟨2, rc0⟩ else ⟨1, r⟩), (f.getD i zbk).worn⟩ := by
      refine ⟨by show ((f.getD i zbk).pages.set _ _).length = 4; rw [List.length_set]; exact hb.1, hb.2.1, hb.2.2.1, fun p hp => ?_⟩
      rcases mem_set hp with hp | rfl
      · exact hb.2.2.2 p hp
      · cases torn
        · exact put_ok hr
        · exact torn_ok
    exact flFine_set h key i
theorem doStep_fine {s : St} {x : Sp} (hs : stFine s) (hx : spFine x) (torn : Bool) : stFine (doStep s x torn) := by
  obtain ⟨h1, h2, h3⟩ := hs
  obtain ⟨x1, x2, x3⟩ := hx
  unfold doStep
  split
  · rename_i hk
    split
    · exact ⟨h1, h2, h3⟩
    · refine ⟨h1, by rw [List.length_set]; exact h2, fun v hv => ?_⟩
      rcases mem_set hv with hv | rfl
      · exact h3 v hv
      · exact ⟨(x1 hk).2.2.1, (x1 hk).2.2.2⟩
  · split
    · rename_i hk
      have := x2 (.inl hk)
      exact ⟨wipeR_fine h1 (by omega) torn, h2, h3⟩
    · split
      · rename_i hk
        have := x2 (.inr hk)
        exact ⟨writeR_fine h1 (by omega) (x3 hk) torn, h2, h3⟩
      · exact ⟨h1, h2, h3⟩
theorem doAllOf_fine : ∀ {xs : List Sp} {s : St}, stFine s → (∀ x ∈ xs, spFine x) → stFine (doAllOf s xs)
  | [], _, hs, _ => hs
  | x :: xs, s, hs, hx => doAllOf_fine (xs := xs) (s := doStep s x false) (doStep_fine hs (hx x (List.mem_cons_self ..)) false) (fun y hy => hx y (List.mem_cons_of_mem _ hy))
theorem doTo_fine {s : St} {xs : List Sp} (hs : stFine s) (hx : ∀ x ∈ xs, spFine x) (cut : Int) (torn : Bool) : stFine (doTo s xs cut torn) := by
  have h1 := doAllOf_fine (xs := xs.take cut.toNat) hs (fun x h => hx x (List.mem_of_mem_take h))
  unfold doTo
  split
  · rename_i h
    refine doStep_fine h1 ?_ true
    have hl : cut.toNat < xs.length := by omega
    rw [List.getD_eq_getElem?_getD, List.getElem?_eq_getElem hl]
    exact hx _ (List.getElem_mem hl)
  · exact h1
theorem rec_of_written {p : Pg} (h : pageOk p = true) (h1 : p.state = 1) : recOk p.rc = true := by unfold pageOk at h; rw [if_pos h1] at h; exact h
theorem recOk_addr {r : Rc} (h : recOk r = true) : 1 ≤ r.addr ∧ r.addr ≤ 6 ∧ 0 ≤ r.val ∧ r.val ≤ 9 ∧ 1 ≤ r.seq ∧ r.seq ≤ 600 := by
  unfold recOk addrB valB at h
  simp at h
  omega
theorem oldGo_lt {f : List Bk} : ∀ (r : List Bk) (i out : Nat), i + r.length = f.length → out < f.length → oldGo f i out r < f.length
  | [], _, _, _, h => h
  | b :: r, i, out, hi, h => by
    rw [List.length_cons] at hi
    unfold oldGo
    split
    · exact oldGo_lt r _ _ (by omega) (by omega)
    · exact oldGo_lt r _ _ (by omega) h
theorem old_lt4 {f : List Bk} (h : f.length = 4) : old f < 4 := by
  have := oldGo_lt (f := f) (f.drop 1) 1 0 (by simp; omega) (by omega)
  rw [h] at this; exact this
theorem lastPs_inv {a : Int} : ∀ {ps : List Pg} {o : Rc}, (∀ p ∈ ps, pageOk p = true) → (o = rc0 ∨ (recOk o = true ∧ o.addr = a)) → (lastPs a o ps = rc0 ∨ (recOk (lastPs a o ps) = true ∧ (lastPs a o ps).addr = a))
  | [], _, _, h => h
  | p :: ps, o, hp, h => by
    refine lastPs_inv (ps := ps) (o := lastStep a o p) (fun q hq => hp q (List.mem_cons_of_mem _ hq)) ?_
    unfold lastStep
    split
    · rename_i hh
      exact .inr ⟨rec_of_written (hp p (List.mem_cons_self ..)) hh.1, hh.2.1⟩
    · exact h
theorem last_inv {f : List Bk} (h : ∀ b ∈ f, ∀ p ∈ b.pages, pageOk p = true) (a : Int) : last f a = rc0 ∨ (recOk (last f a) = true ∧ (last f a).addr = a) := by
  have key : ∀ (g : List Bk) (o : Rc), (∀ b ∈ g, ∀ p ∈ b.pages, pageOk p = true) → (o = rc0 ∨ (recOk o = true ∧ o.addr = a)) → (g.foldl (fun o b => lastPs a o b.pages) o = rc0 ∨ (recOk (g.foldl (fun o b => lastPs a o b.pages) o) = true ∧ (g.foldl (fun o b => lastPs a o b.pages) o).addr = a)) := by
    intro g
    induction g with
    | nil => intro o _ h; exact h
    | cons b g ih => intro o hg h; exact ih _ (fun c hc => hg c (List.mem_cons_of_mem _ hc)) (lastPs_inv (hg b (List.mem_cons_self ..)) h)
  exact key f rc0 h (.inl rfl)
theorem last_found {f : List Bk} (h : ∀ b ∈ f, ∀ p ∈ b.pages, pageOk p = true) {a : Int} (h0 : 0 < (last f a).seq) : recOk (last f a) = true ∧ (last f a).addr = a := by
  rcases last_inv h a with h1 | h1
  · rw [h1] at h0; exact absurd h0 (by decide)
  · exact h1
end Go.Proofs.Ytbekihiiildgmaa
namespace Go.Proofs.Ytbekihiiildgmaa
set_option linter.unusedVariables false
set_option linter.unusedSimpArgs false
open Go.RowKit Go.Shelf
attribute [local go_sem] Oper.semAt_some
set_option maxHeartbeats 400000
set_option maxHeartbeats 1000000 in
theorem eachPage_in (F : Fence) (n : Nat) (h : F.fn 94) (hro : F.round = none) (a : Option Addr) (len cap : Nat) (w : World) :
    CallsIn F n Try.prog 94 #[.slice a len cap] w fun e w' => e = .returned (.func (.func 141) #[] #[.pointer (some ⟨w.heap.size, 0, none⟩)]) ∧ w' = w.alloc (.cells #[.slice a len cap] 23) := by
  refine callsIn_of_wp Try.func94 rfl h ?_ hro
  simp only [Try.ntmps94, List.size_toArray, List.length_cons, List.length_nil, Nat.reduceAdd, Nat.reduceSub, Array.replicate_succ, Array.replicate_zero, List.push_toArray, List.append_toArray, List.nil_append, List.cons_append]
  gi_wp2
  go_ret
  exact ⟨rfl, rfl⟩
theorem mem_tag {i : Nat} {x : PgAt} : ∀ {ps : List Pg} {j : Nat}, x ∈ tagFrom i j ps → x.2.2 ∈ ps
  | [], _, h => by simp [tagFrom] at h
  | p :: ps, j, h => by
    rw [tagFrom] at h
    rcases List.mem_cons.1 h with rfl | h
    · exact List.mem_cons_self ..
    · exact List.mem_cons_of_mem _ (mem_tag h)
theorem mem_all {x : PgAt} : ∀ {f : List Bk} {i : Nat}, x ∈ allFrom i f → ∃ b ∈ f, x.2.2 ∈ b.pages
  | [], _, h => by simp [allFrom] at h
  | b :: f, i, h => by
    rw [allFrom] at h
    rcases List.mem_append.1 h with h | h
    · exact ⟨b, List.mem_cons_self .., mem_tag h⟩
    · obtain ⟨c, hc, hx⟩ := mem_all h
      exact ⟨c, List.mem_cons_of_mem _ hc, hx⟩
/-- cells laid in a block -/
def Laid (W : World) (B : Nat) (t : TypeId) (cs : Array Value) : Prop := W.heap[B]? = some (.cells cs t (0, 0))
theorem Laid.lt {W : World} {B : Nat} {t : TypeId} {cs : Array Value} (h : Laid W B t cs) : B < W.heap.size := (Array.getElem?_eq_some_iff.1 h).1
theorem Laid.cell {W : World} {B : Nat} {t : TypeId} {cs : Array Value} (h : Laid W B t cs) (i : Nat) {u : Value} (hu : cs[i]? = some u) : W.cell? ⟨B, i, none⟩ = some u := by simp [World.cell?, show W.heap[B]? = _ from h, hu]
theorem laid_own (B : Nat) (t : TypeId) (cs : Array Value) (n₀ : Nat) : OwnFrom n₀ (fun (_ : Unit) W => Laid W B t cs) := fun _ X Y row hs hg hr =>
  (hg.block B hs.lt (fun e' => by obtain ⟨_, o, ho, hc⟩ := hr B e'.symm; rw [show X.heap[B]? = _ from hs] at ho; cases ho; cases hc)).trans hs
def pgv (p : Pg) : Array Value := #[.int .i64 p.state, .int .i64 p.rc.kind, .int .i64 p.rc.seq, .int .i64 p.rc.addr, .int .i64 p.rc.val]
end Go.Proofs.Ytbekihiiildgmaa
namespace Go.Proofs.Ytbekihiiildgmaa
set_option linter.unusedVariables false
set_option linter.unusedSimpArgs false
open Go.RowKit Go.Maps
set_option maxHeartbeats 400000
theorem clean_le (b : Bk) : clean b ≤ b.pages.length := List.countP_le_length
set_option maxHeartbeats 2000000 in
theorem spec_l2Write' (f : List Bk) (i lo hi g o c : Nat) (r : Rc) (torn : Bool) (w : World) (hl : f.length = 4) (hp : ∀ b ∈ f, b.pages.length = 4) (hi4 : i < 4) (hs : List (Option Addr × Nat)) (hBk : Bks w (some ⟨g, o, none⟩) f hs) (hApt : Apt lo hi (some ⟨g, o, none⟩) hs) :
    Calls Try.prog 159 #[.slice (some ⟨g, o, none⟩) 4 c, .int .i64 i, .agg #[.int .i64 r.kind, .int .i64 r.seq, .int .i64 r.addr, .int .i64 r.val], .bool torn] w fun e w' =>
      e = .returned (.tuple #[.slice (some ⟨g, o, none⟩) 4 c, .bool (writeR f i r torn).2]) ∧ Bks w' (some ⟨g, o, none⟩) (writeR f i r torn).1 hs ∧ Agr (fblk (some ⟨g, o, none⟩) hs) w w' := by
  obtain ⟨B, hB⟩ := get_some (l := f) (k := i) (by omega)
  have hBm := hp B (List.mem_of_getElem? hB)
  have hBget : f.getD i zbk = B := by rw [List.getD_eq_getElem?_getD, hB]; rfl
  have hBk0 := hBk.alloc (.cells #[.int .i64 r.kind, .int .i64 r.seq, .int .i64 r.addr, .int .i64 r.val] 45)
  obtain ⟨⟨Ap, cp⟩, hx, z0, z1, z2, z3, hR, _⟩ := hBk0.at_ hB
  dsimp only at z0 hR
  have hcl : clean B ≤ 4 := by rw [← hBm]; exact clean_le B
  have hi4' : (i : Int) < 4 := by omega
  have hfin : Hid (writeR f i r torn = if clean B = 0 ∨ seqIn f r.seq = true then (f, false) else (f.set i { B with pages := B.pages.set (4 - clean B) (if torn then ⟨2, rc0⟩ else ⟨1, r⟩) }, true)) := by unfold Hid writeR; rw [hBget]
  have HP := Lib.hid (show ∀ b ∈ f, b.pages.length < 1000000000000 from fun b hb => by rw [hp b hb]; omega)
  have hpl : B.pages.length < 1000000000000 := by omega
  have HB := Lib.hid hB
  have HBM := Lib.hid hBm
  have HX := Lib.hid hx
  have HL := Lib.hid hl
  have hl4 : f.length < 1000000000000 := by omega
  clear hl hp hBget hBm hB hx
  go_enter Try.func159, Try.ntmps159
  go_wp2_with fail
  refine (spec_l2Clean B Ap cp _ hpl hR).mono ?_
  rintro e w1 ⟨rfl, hb⟩
  have hB1 : Below w.heap.size w w1 := Below.trans (by (repeat (first | (with_reducible exact Below.refl _ _) | (with_reducible assumption) | (refine Below.setCell ?_ (by first | omega | exact hB.size | exact hb.size | (have h := hB.size; simp; omega) | (have h := hb.size; simp; omega) | (simp; omega) | simp) _) | (refine Below.alloc ?_ (by first | omega | exact hB.size | exact hb.size | (have h := hB.size; simp; omega) | (have h := hb.size; simp; omega) | (simp; omega) | simp) _) | (refine Below.drew ?_)))) (hb.mono (by simp))
  have hz : w.heap.size < w1.heap.size := by have := hb.size; simp at this; omega
  obtain ⟨hc, hf⟩ := bcell hb
  have hBk1 := hBk0.below hb (Nat.le_refl _)
  clear hb z0 z1 z2 z3 hR
  generalize clean B = n at *
  by_cases h0 : n = 0
  · subst h0
    have h3 : Hid (writeR f i r torn = (f, false)) := by rw [Hid, hfin.out, if_pos (.inl rfl)]
    go_wp2
    go_ret2
    rw [h3.out]
    exact ⟨rfl, hBk1, Agr.of_below hB1⟩
  · have hn0 : ((n : Int) == 0) = false := by rw [beq_eq_false_iff_ne]; omega
    go_wp2_with fail
    rw [← HL.out]
    refine (spec_l2Seq f r.seq _ c _ hl4 HP.out ⟨hs, hBk1⟩).mono ?_
    rintro e w2 ⟨rfl, rfl⟩
    rw [HL.out]
    by_cases hsq : seqIn f r.seq = true
    · have h3 : Hid (writeR f i r torn = (f, false)) := by rw [Hid, hfin.out, if_pos (.inr hsq)]
      rw [hsq]
      go_wp2
      go_ret2
      rw [h3.out]
      exact ⟨rfl, hBk1, Agr.of_below hB1⟩
    · have h3 : Hid (writeR f i r torn = (f.set i { B with pages := B.pages.set (4 - n) (if torn then ⟨2, rc0⟩ else ⟨1, r⟩) }, true)) := by
        rw [Hid, hfin.out, if_neg (by intro h; rcases h with h | h; exact h0 h; exact hsq h)]
      rw [show seqIn f r.seq = false by simpa using hsq]
      obtain ⟨j, hj⟩ : ∃ j, j + n = 4 := ⟨4 - n, by omega⟩
      have hj4 : 4 - n = j := by omega
      have e1 : IntKind.i64.wrap ((4 : Int) - n) = (j : Int) := by rw [show (4 : Int) - n = j by omega]; exact IntWalk.i64_in _ (by omega)
      have e2 : (4 : Int) - n = (j : Int) := by omega
      rw [hj4] at h3
      clear hj4 hfin hsq
      obtain ⟨x, hx2, y0, y1, _, _, hR1, _⟩ := hBk1.at_ HB.out
      rw [HX.out] at hx2
      cases hx2
      dsimp only at y0 hR1
      rw [HBM.out] at y0
      obtain ⟨p, hq⟩ := get_some (l := B.pages) (k := j) (by rw [HBM.out]; omega)
      obtain ⟨pb, po, rfl⟩ := hR1.addr (pgs_ne (by intro e; rw [e] at hq; simp at hq))
      obtain ⟨c0, c1, c2, c3, c4⟩ := hR1.pg hq
      obtain ⟨f0, f1, f2, f3, f4⟩ := hR1.pgf hq
      have hj1 : (j : Int) < 4 := by omega
      have hpin := hApt.in_ i _ pb HX.out (by rw [blk_some])
      have HQ := Lib.hid hq
      have hpb := lt_of_cell c0
      have hgl := lt_of_cell y0
      clear hq
      cases torn
      · have hWp := wrote_page hR1 HQ.out ⟨1, r⟩
        have hBk2 := hBk1.setPage hApt HB.out HX.out (by rw [HBM.out]; omega) hWp
        have hA2 := (Agr.of_below hB1 (S := fblk (some ⟨g, o, none⟩) hs)).trans hWp.agr (fun b _ e => .inr ⟨i, _, HX.out, by rw [e, blk_some]⟩)
        clear hWp hBk1
        go_wp2
        go_region
        go_wp2
        go_ret2
        rw [h3.out]
        exact ⟨rfl, (hBk2.alloc _).drew, (hA2.alloc _).drew⟩
      · have hWp := wrote_page hR1 HQ.out ⟨2, rc0⟩
        have hBk2 := hBk1.setPage hApt HB.out HX.out (by rw [HBM.out]; omega) hWp
        have hA2 := (Agr.of_below hB1 (S := fblk (some ⟨g, o, none⟩) hs)).trans hWp.agr (fun b _ e => .inr ⟨i, _, HX.out, by rw [e, blk_some]⟩)
        simp only [rc0] at hBk2 hA2
        clear hWp hBk1
        go_wp2
        go_region
        go_wp2
        go_ret2
        rw [h3.out]
        exact ⟨rfl, (hBk2.alloc _).drew, (hA2.alloc _).drew⟩
end Go.Proofs.Ytbekihiiildgmaa
namespace Go.Proofs.Ytbekihiiildgmaa
set_option linter.unusedVariables false
set_option linter.unusedSimpArgs false
open Go.RowKit Go.Maps
set_option maxHeartbeats 400000
theorem Try.info3_step : (Try.prog.info? 47).map (fun i => (i.zero, i.size, i.bytes)) = some (some (.agg #[.int .i64 0, .int .i64 0, .int .i64 0, .int .i64 0, .int .i64 0, .int .i64 0, .int .i64 0, .int .i64 0]), 8, 64) := by kernel_rfl
/-- a row of steps of one's own, in a block from base on -/
def OwnS (w : World) (base : Nat) (v : Value) (xs : List Sp) : Prop := w.ownsRow base 47 8 v xs.length (sps xs)
theorem ownsRow_keep {w w' : World} {base : Nat} {e : TypeId} {size n : Nat} {v : Value} {xs : List Value} (h : w.ownsRow base e size v n xs) (hk : ∀ b, v.ownBlock = some b → b < w.heap.size → w'.heap[b]? = w.heap[b]?) : w'.ownsRow base e size v n xs := by
  refine ⟨h.1, ?_⟩
  rcases h.2 with hn | ⟨g, cap, cur, hv, hb, hg, rest⟩
  · exact .inl hn
  · have hl : g < w.heap.size := by
      rcases Nat.lt_or_ge g w.heap.size with hl | hl
      · exact hl
      · rw [Array.getElem?_eq_none hl] at hg; cases hg
    exact .inr ⟨g, cap, cur, hv, hb, by rw [hk g (by rw [hv]; rfl) hl]; exact hg, rest⟩
theorem OwnS.below {w w' : World} {base B : Nat} {v : Value} {xs : List Sp} (h : OwnS w base v xs) (hb : Below B w w') (hB : w.heap.size ≤ B) : OwnS w' base v xs := ownsRow_keep h fun b _ hl => hb.block b (by omega)
theorem OwnS.agr {w w' : World} {base : Nat} {v : Value} {xs : List Sp} {S : Nat → Prop} (h : OwnS w base v xs) (hb : Agr S w w') (hS : ∀ b, base ≤ b → ¬ S b) : OwnS w' base v xs := by
  refine ownsRow_keep h fun b hbl hl => hb.block b hl (hS b ?_)
  exact (World.ownsRow.lt h b hbl).1
theorem OwnS.mono {w : World} {base base' : Nat} {v : Value} {xs : List Sp} (h : OwnS w base v xs) (hb : base' ≤ base) : OwnS w base' v xs := World.ownsRow.mono h hb
theorem OwnS.nil (w : World) (base : Nat) (hb : base ≤ w.heap.size) : OwnS (w.alloc (.cells #[] 47)) base (.slice (some ⟨w.heap.size, 0, none⟩) 0 0) [] := World.ownsRow_lit w #[] 0 hb (by unfold maxLen; omega) rfl
theorem OwnS.shape {w : World} {base : Nat} {v : Value} {xs : List Sp} (h : OwnS w base v xs) : ∃ A c, v = .slice A xs.length c ∧ xs.length ≤ c ∧ Row w A (sps xs) ∧ ∀ b, blk A b → base ≤ b ∧ b < w.heap.size := by
  rcases h.2 with ⟨hv, hn⟩ | ⟨g, cap, cur, hv, hb, hg, hc, rest⟩
  · exact ⟨none, 0, by rw [hv, hn], by omega, by have : xs = [] := List.length_eq_zero_iff.1 hn; subst this; exact Row.nil _ _, fun b hb => by simp [blk] at hb⟩
  · refine ⟨some ⟨g, 0, none⟩, cap, hv, hc, Row.of_own (by rw [← hv]; exact h), fun b hbb => ?_⟩
    rw [blk_some] at hbb
    subst hbb
    exact ⟨hb, (World.ownsRow.lt h g (by rw [hv]; rfl)).2⟩
theorem OwnS.snoc {w : World} {base g n c : Nat} {xs : List Sp} {x : Sp} (hn : n = xs.length + 1) (h : w.ownsRow base 47 8 (.slice (some ⟨g, 0, none⟩) (xs.length + 1) c) (xs.length + 1) (sps xs ++ x.vs)) : OwnS w base (.slice (some ⟨g, 0, none⟩) n c) (xs ++ [x]) := by
  subst hn
  unfold OwnS
  rw [List.length_append, sps, List.flatMap_append, show [x].flatMap Sp.vs = x.vs by simp]
  exact h
theorem old_lt {f : List Bk} : ∀ (r : List Bk) (i out : Nat), i + r.length = f.length → out < f.length → oldGo f i out r < f.length
  | [], _, _, _, h => h
  | b :: r, i, out, hi, h => by
    rw [List.length_cons] at hi
    unfold oldGo
    split
    · exact old_lt r _ _ (by omega) (by omega)
    · exact old_lt r _ _ (by omega) h
theorem tells_len (f : List Bk) (ps : List Pg) : (tells f ps).length ≤ ps.length := by
  unfold tells; rw [List.length_map]; exact List.length_filter_le _ _
theorem room_len {f : List Bk} (hf : f.length = 4) (hp : ∀ b ∈ f, b.pages.length = 4) : (room f).1.length ≤ 5 := by
  unfold room
  split
  · simp
  · have h1 := tells_len f (f.getD (old f) zbk).pages
    have hlt : old f < f.length := old_lt _ _ _ (by simp; omega) (by omega)
    have h2 : (f.getD (old f) zbk).pages.length = 4 := by
      rw [List.getD_eq_getElem?_getD, List.getElem?_eq_getElem hlt]
      exact hp _ (List.getElem_mem hlt)
    rw [List.length_append]; simp only [List.length_cons, List.length_nil]; omega
end Go.Proofs.Ytbekihiiildgmaa
namespace Go.Proofs.Ytbekihiiildgmaa
set_option linter.unusedVariables false
set_option linter.unusedSimpArgs false
open Go.RowKit Go.Maps
set_option maxHeartbeats 400000
end Go.Proofs.Ytbekihiiildgmaa
namespace Go.Proofs.Ytbekihiiildgmaa
set_option linter.unusedVariables false
set_option linter.unusedSimpArgs false
open Go.RowKit Go.Maps
set_option maxHeartbeats 400000
theorem Fl.drew' {w : World} {A : Option Addr} {f : List Bk} (h : Fl w A f) : Fl w.drew A f := by obtain ⟨hs, h⟩ := h; exact ⟨hs, h.drew⟩
theorem wr_len {f : List Bk} (hf : f.length = 4) (hp : ∀ b ∈ f, b.pages.length = 4) (k a v : Int) : (wr f k a v).length ≤ 6 := by
  have := room_len hf hp
  unfold wr
  split
  · simp
  · rw [List.length_append]; simp only [List.length_cons, List.length_nil]; omega
end Go.Proofs.Ytbekihiiildgmaa
namespace Go.Proofs.Ytbekihiiildgmaa
set_option linter.unusedVariables false
set_option linter.unusedSimpArgs false
open Go.RowKit Go.Maps
set_option maxHeartbeats 400000
/-- all blocks but one are alike -/
def others (f g : List Bk) (k : Int) : Prop := f.length = g.length ∧ ∀ j : Nat, (j : Int) ≠ k → f[j]? = g[j]?
end Go.Proofs.Ytbekihiiildgmaa
namespace Go.Proofs.Ytbekihiiildgmaa
set_option linter.unusedVariables false
set_option linter.unusedSimpArgs false
open Go.RowKit Go.Maps
set_option maxHeartbeats 400000
theorem laws_eqRec (r s : Rc) (w : World) : Calls Try.prog 146 #[.agg #[.int .i64 r.kind, .int .i64 r.seq, .int .i64 r.addr, .int .i64 r.val], .agg #[.int .i64 s.kind, .int .i64 s.seq, .int .i64 s.addr, .int .i64 s.val]] w fun e w' => e = .returned (.bool (decide (r = s))) ∧ Below w.heap.size w w' := by
  obtain ⟨k, q, a, v⟩ := r
  obtain ⟨k', q', a', v'⟩ := s
  dsimp only
  go_enter Try.func146, Try.ntmps146
  go_wp2
  all_goals (go_ret; exact ⟨ret_bool (by simp_all), ((Below.refl _ _).alloc (Nat.le_refl _) _).alloc (by simp) _⟩)
theorem laws_eqPage (p q : Pg) (w : World) : Calls Try.prog 166 #[.agg #[.int .i64 p.state, .int .i64 p.rc.kind, .int .i64 p.rc.seq, .int .i64 p.rc.addr, .int .i64 p.rc.val], .agg #[.int .i64 q.state, .int .i64 q.rc.kind, .int .i64 q.rc.seq, .int .i64 q.rc.addr, .int .i64 q.rc.val]] w
    fun e w' => e = .returned (.bool (decide (p = q))) ∧ Below w.heap.size w w' := by
  obtain ⟨st, r⟩ := p
  obtain ⟨st', s⟩ := q
  dsimp only
  by_cases hst : st = st'
  · subst hst
    have hq : Hid (decide ((⟨st, r⟩ : Pg) = ⟨st, s⟩) = decide (r = s)) := by unfold Hid; simp
    go_enter Try.func166, Try.ntmps166
    go_wp2_with (go_at_call 146; refine (laws_eqRec r s _).mono ?_; rintro e w1 ⟨rfl, hb⟩)
    all_goals (go_ret; exact ⟨ret_bool (by rw [hq.out]; simp_all), (((Below.refl _ _).alloc (Nat.le_refl _) _).alloc (by simp) _).trans (hb.mono (by simp; omega))⟩)
  · have hq : Hid (decide ((⟨st, r⟩ : Pg) = ⟨st', s⟩) = false) := by unfold Hid; simp [hst]
    go_enter Try.func166, Try.ntmps166
    go_wp2
    go_ret
    exact ⟨ret_bool hq.out.symm, ((Below.refl _ _).alloc (Nat.le_refl _) _).alloc (by simp) _⟩
theorem eq_drop {α : Type} [DecidableEq α] {l m : List α} {k : Nat} {x y : α} (hx : l[k]? = some x) (hy : m[k]? = some y) : decide (l.drop k = m.drop k) = (decide (x = y) && decide (l.drop (k + 1) = m.drop (k + 1))) := by
  rw [drop_cons hx, drop_cons hy, Bool.eq_iff_iff]
  simp
theorem laws_eqPageS (A A' : Option Addr) (c c' : Nat) (ps qs : List Pg) (w : World) (hl : ps.length < 1000000000000) (hl' : qs.length < 1000000000000) (hR : Row w A (pgs ps)) (hR' : Row w A' (pgs qs)) :
    Calls Try.prog 162 #[.slice A ps.length c, .slice A' qs.length c'] w fun e w' => e = .returned (.bool (decide (ps = qs))) ∧ Below w.heap.size w w' := by
  by_cases hn : ps.length = qs.length
  · have HN := Lib.hid hn
    rw [← hn]
    clear hn hl'
    go_enter Try.func162, Try.ntmps162
    go_wp2
    go_loopw [5] (fun i wr => ∃ (k : Nat), k ≤ ps.length ∧ i = .int .i64 k ∧ Below w.heap.size w wr ∧ Hid (decide (ps = qs) = decide (ps.drop k = qs.drop k))) (fun i _ => ps.length - (intOf i).toNat)
    case atStart => exact ⟨0, by omega, rfl, Below.refl _ _, by simp [Hid]⟩
    case round =>
      obtain ⟨k, hk, rfl, hb, hg⟩ := hrel
      by_cases hlt : k < ps.length
      · obtain ⟨p, hp⟩ := get_some hlt
        obtain ⟨q, hq⟩ := get_some (l := qs) (k := k) (by have := HN.out; omega)
        have hd := Lib.hid (eq_drop hp hq)
        obtain ⟨b, o, rfl⟩ := hR.addr (pgs_ne (by rintro rfl; simp at hlt))
        obtain ⟨b', o', rfl⟩ := hR'.addr (pgs_ne (by rintro rfl; simp at hq))
        have hRk := hR.below hb (Nat.le_refl _)
        have hRk' := hR'.below hb (Nat.le_refl _)
        obtain ⟨c0, c1, c2, c3, c4⟩ := hRk.pg hp
        obtain ⟨d0, d1, d2, d3, d4⟩ := hRk'.pg hq
        have hk1 : (k : Int) < ps.length := by omega
        have HP := Lib.hid hp
        have HQ := Lib.hid hq
        clear hp hq
        go_wp2
        go_region_held3 (fun w' => w'.cell? ⟨b, o + k * 5, none⟩ = some (.int .i64 p.state) ∧ w'.cell? ⟨b, o + k * 5 + 1, none⟩ = some (.int .i64 p.rc.kind) ∧ w'.cell? ⟨b, o + k * 5 + 2, none⟩ = some (.int .i64 p.rc.seq) ∧ w'.cell? ⟨b, o + k * 5 + 3, none⟩ = some (.int .i64 p.rc.addr) ∧ w'.cell? ⟨b, o + k * 5 + 4, none⟩ = some (.int .i64 p.rc.val) ∧
            w'.cell? ⟨b', o' + k * 5, none⟩ = some (.int .i64 q.state) ∧ w'.cell? ⟨b', o' + k * 5 + 1, none⟩ = some (.int .i64 q.rc.kind) ∧ w'.cell? ⟨b', o' + k * 5 + 2, none⟩ = some (.int .i64 q.rc.seq) ∧ w'.cell? ⟨b', o' + k * 5 + 3, none⟩ = some (.int .i64 q.rc.addr) ∧ w'.cell? ⟨b', o' + k * 5 + 4, none⟩ = some (.int .i64 q.rc.val))
          (first | go_keep | trivial)
          (first | (go_at_call 166; refine (laws_eqPage p q _).mono ?_; rintro e w1 ⟨rfl, hb1⟩; replace hb1 := undrew hb1; obtain ⟨e0, e1, e2, e3, e4⟩ := (hRk.below hb1 (Nat.le_refl _)).pg HP.out; obtain ⟨g0, g1, g2, g3, g4⟩ := (hRk'.below hb1 (Nat.le_refl _)).pg HQ.out))
        have hB1 := hb.trans (hb1.mono hb.size)
        go_wp2
        · have hne : (!decide (p = q)) = true := by assumption
          have hne' : decide (p = q) = false := by simpa using hne
          go_ret
          exact ⟨ret_bool (by rw [hg.out, hd.out, hne']; rfl), hB1⟩
        · have heq : (!decide (p = q)) = false := by assumption
          have heq' : decide (p = q) = true := by simpa using heq
          go_roundw
          case rel => exact ⟨k + 1, by omega, by go_num, hB1, by rw [Hid, hg.out, hd.out, heq', Bool.true_and]⟩
          case measure => simp [intOf]; omega
      · obtain rfl : k = ps.length := by omega
        go_wp2
        go_ret
        exact ⟨ret_bool (by rw [hg.out, List.drop_of_length_le (Nat.le_refl _), List.drop_of_length_le (by have := HN.out; omega)]; rfl), hb⟩
  · have hq : Hid (decide (ps = qs) = false) := by unfold Hid; simp; intro e; exact hn (by rw [e])
    go_enter Try.func162, Try.ntmps162
    go_wp2
    go_ret
    exact ⟨ret_bool hq.out.symm, Below.refl _ _⟩
theorem laws_eqBlock (a b : Bk) (A A' : Option Addr) (c c' : Nat) (w : World) (hl : a.pages.length < 1000000000000) (hl' : b.pages.length < 1000000000000) (hR : Row w A (pgs a.pages)) (hR' : Row w A' (pgs b.pages)) :
    Calls Try.prog 145 #[.agg #[.slice A a.pages.length c, .int .i64 a.worn], .agg #[.slice A' b.pages.length c', .int .i64 b.worn]] w fun e w' => e = .returned (.bool (decide (a = b))) ∧ Below w.heap.size w w' := by
  obtain ⟨ps, n⟩ := a
  obtain ⟨qs, m⟩ := b
  dsimp only at *
  have hB0 : Below w.heap.size w ((w.alloc (.cells #[.slice A ps.length c, .int .i64 n] 137)).alloc (.cells #[.slice A' qs.length c', .int .i64 m] 137)) := ((Below.refl _ _).alloc (Nat.le_refl _) _).alloc (by simp) _
  go_enter Try.func145, Try.ntmps145
  go_wp2_with fail
  refine (laws_eqPageS A A' c c' ps qs _ hl hl' ((hR.alloc _).alloc _) ((hR'.alloc _).alloc _)).mono ?_
  rintro e w1 ⟨rfl, hb1⟩
  have hB1 := hB0.trans (hb1.mono hB0.size)
  have x1 : w1.cell? ⟨w.heap.size, 1, none⟩ = some (.int .i64 n) := (hb1.cell (by simp; omega)).trans (by simp)
  have y1 : w1.cell? ⟨w.heap.size + 1, 1, none⟩ = some (.int .i64 m) := (hb1.cell (by simp)).trans (by simp)
  clear hb1 hB0
  by_cases hpq : ps = qs
  · subst hpq
    have hq : Hid (∀ x, x = decide (n = m) → decide ((⟨ps, n⟩ : Bk) = ⟨ps, m⟩) = x) := by intro x hx; rw [hx]; simp
    rw [show decide (ps = ps) = true from by simp]
    go_wp2
    all_goals (go_ret; exact ⟨ret_bool (hq.out _ (by simp_all)).symm, hB1⟩)
  · have hq : Hid (decide ((⟨ps, n⟩ : Bk) = ⟨qs, m⟩) = false) := by unfold Hid; simp [hpq]
    rw [show decide (ps = qs) = false from by simpa using hpq]
    clear hpq
    go_wp2
    go_ret
    exact ⟨ret_bool hq.out.symm, hB1⟩
set_option maxHeartbeats 1000000 in
theorem laws_eqBlockS (A A' : Option Addr) (c c' : Nat) (f g : List Bk) (w : World) (hl : f.length < 1000000000000) (hl' : g.length < 1000000000000) (hp : ∀ b ∈ f, b.pages.length < 1000000000000) (hp' : ∀ b ∈ g, b.pages.length < 1000000000000) (hF : Fl w A f) (hF' : Fl w A' g) :
    Calls Try.prog 100 #[.slice A f.length c, .slice A' g.length c'] w fun e w' => e = .returned (.bool (decide (f = g))) ∧ Below w.heap.size w w' := by
  obtain ⟨hs, hF⟩ := hF
  obtain ⟨ks, hF'⟩ := hF'
  by_cases hn : f.length = g.length
  · have HN := Lib.hid hn
    have HP := Lib.hid hp
    have HP' := Lib.hid hp'
    rw [← hn]
    clear hn hl' hp hp'
    go_enter Try.func100, Try.ntmps100
    go_wp2
    go_loopw [5] (fun i wr => ∃ (k : Nat), k ≤ f.length ∧ i = .int .i64 k ∧ Below w.heap.size w wr ∧ Hid (decide (f = g) = decide (f.drop k = g.drop k))) (fun i _ => f.length - (intOf i).toNat)
    case atStart => exact ⟨0, by omega, rfl, Below.refl _ _, by simp [Hid]⟩
    case round =>
      obtain ⟨k, hk, rfl, hb, hg⟩ := hrel
      by_cases hlt : k < f.length
      · obtain ⟨p, hp⟩ := get_some hlt
        obtain ⟨q, hq⟩ := get_some (l := g) (k := k) (by have := HN.out; omega)
        have hd := Lib.hid (eq_drop hp hq)
        have hpl := HP.out p (List.mem_of_getElem? hp)
        have hql := HP'.out q (List.mem_of_getElem? hq)
        obtain ⟨b, o, rfl⟩ := hF.addr (by rintro rfl; simp at hlt)
        obtain ⟨b', o', rfl⟩ := hF'.addr (by rintro rfl; simp at hq)
        have hFk := hF.below hb (Nat.le_refl _)
        have hFk' := hF'.below hb (Nat.le_refl _)
        obtain ⟨⟨Ap, cp⟩, _, c0, c1, _, _, hRp, _⟩ := hFk.at_ hp
        obtain ⟨⟨Aq, cq⟩, _, d0, d1, _, _, hRq, _⟩ := hFk'.at_ hq
        have hk1 : (k : Int) < f.length := by omega
        dsimp only at *
        have hbb := lt_of_cell c0
        have hbb' := lt_of_cell d0
        clear hp hq
        go_wp2
        go_region_held3 (fun w' => w'.cell? ⟨b, o + k * 2, none⟩ = some (.slice Ap p.pages.length cp) ∧ w'.cell? ⟨b, o + k * 2 + 1, none⟩ = some (.int .i64 p.worn) ∧ w'.cell? ⟨b', o' + k * 2, none⟩ = some (.slice Aq q.pages.length cq) ∧ w'.cell? ⟨b', o' + k * 2 + 1, none⟩ = some (.int .i64 q.worn))
          (first | go_keep | trivial)
          (first | (go_at_call 145; refine (laws_eqBlock p q Ap Aq cp cq _ hpl hql hRp.drew hRq.drew).mono ?_; rintro e w1 ⟨rfl, hb1⟩; replace hb1 := undrew hb1; have e0 := (hb1.cell (p := ⟨b, o + k * 2, none⟩) hbb).trans c0; have e1 := (hb1.cell (p := ⟨b, o + k * 2 + 1, none⟩) hbb).trans c1; have g0 := (hb1.cell (p := ⟨b', o' + k * 2, none⟩) hbb').trans d0; have g1 := (hb1.cell (p := ⟨b', o' + k * 2 + 1, none⟩) hbb').trans d1))
        have hB1 := hb.trans (hb1.mono hb.size)
        go_wp2
        · have hne : (!decide (p = q)) = true := by assumption
          have hne' : decide (p = q) = false := by simpa using hne
          go_ret
          exact ⟨ret_bool (by rw [hg.out, hd.out, hne']; rfl), hB1⟩
        · have heq : (!decide (p = q)) = false := by assumption
          have heq' : decide (p = q) = true := by simpa using heq
          go_roundw
          case rel => exact ⟨k + 1, by omega, by go_num, hB1, by rw [Hid, hg.out, hd.out, heq', Bool.true_and]⟩
          case measure => simp [intOf]; omega
      · obtain rfl : k = f.length := by omega
        go_wp2
        go_ret
        exact ⟨ret_bool (by rw [hg.out, List.drop_of_length_le (Nat.le_refl _), List.drop_of_length_le (by have := HN.out; omega)]; rfl), hb⟩
  · have hq : Hid (decide (f = g) = false) := by unfold Hid; simp; intro e; exact hn (by rw [e])
    go_enter Try.func100, Try.ntmps100
    go_wp2
    go_ret
    exact ⟨ret_bool hq.out.symm, Below.refl _ _⟩
end Go.Proofs.Ytbekihiiildgmaa
namespace Go.Proofs.Ytbekihiiildgmaa
set_option linter.unusedVariables false
set_option linter.unusedSimpArgs false
open Go.RowKit Go.Maps
set_option maxHeartbeats 400000
def markPs : Int → List Pg → List Pg
  | _, [] => []
  | k, _ :: ps => ⟨k, ⟨k + 1, k + 1 + 1, k + 1 + 1 + 1, k + 1 + 1 + 1 + 1⟩⟩ :: markPs (k + 1 + 1 + 1 + 1 + 1) ps
def endPs : Int → List Pg → Int
  | k, [] => k
  | k, _ :: ps => endPs (k + 1 + 1 + 1 + 1 + 1) ps
def markFl : Int → List Bk → List Bk
  | _, [] => []
  | k, b :: f => ⟨markPs k b.pages, endPs k b.pages⟩ :: markFl (endPs k b.pages + 1) f
def endFl : Int → List Bk → Int
  | k, [] => k
  | k, b :: f => endFl (endPs k b.pages + 1) f
theorem endPs_eq : ∀ (ps : List Pg) (k : Int), endPs k ps = k + 5 * ps.length
  | [], k => by simp [endPs]
  | _ :: ps, k => by rw [endPs, endPs_eq ps]; simp only [List.length_cons]; omega
theorem markPs_len : ∀ (ps : List Pg) (k : Int), (markPs k ps).length = ps.length
  | [], _ => rfl
  | _ :: ps, k => by simp [markPs, markPs_len ps]
theorem markFl_len : ∀ (f : List Bk) (k : Int), (markFl k f).length = f.length
  | [], _ => rfl
  | _ :: f, k => by simp [markFl, markFl_len f]
theorem markPs_at : ∀ (ps : List Pg) (k : Int) (j : Nat) (p : Pg), ps[j]? = some p → (markPs k ps)[j]? = some ⟨k + 5 * j, ⟨k + 5 * j + 1, k + 5 * j + 1 + 1, k + 5 * j + 1 + 1 + 1, k + 5 * j + 1 + 1 + 1 + 1⟩⟩
  | [], _, _, _, h => by simp at h
  | q :: ps, k, 0, p, h => by simp [markPs]
  | q :: ps, k, j + 1, p, h => by
    rw [markPs, List.getElem?_cons_succ, markPs_at ps _ j p (by simpa using h), show k + 1 + 1 + 1 + 1 + 1 + 5 * (j : Int) = k + 5 * ((j + 1 : Nat) : Int) by omega]
/-- the marks behind j pages, the old pages from there on -/
theorem mark_step (ps : List Pg) (k : Int) (j : Nat) (h : j < ps.length) : ((markPs k ps).take j ++ ps.drop j).set j ⟨k + 5 * j, ⟨k + 5 * j + 1, k + 5 * j + 1 + 1, k + 5 * j + 1 + 1 + 1, k + 5 * j + 1 + 1 + 1 + 1⟩⟩ = (markPs k ps).take (j + 1) ++ ps.drop (j + 1) := by
  have hl := markPs_len ps k
  obtain ⟨p, hp⟩ := get_some h
  rw [List.set_append_right _ _ (by simp; omega), show j - ((markPs k ps).take j).length = 0 by simp; omega, List.drop_eq_getElem_cons h, List.set_cons_zero, List.take_add_one, markPs_at ps k j p hp]
  simp
theorem laws_markPageS (A : Option Addr) (c : Nat) (ps : List Pg) (k : Int) (w : World) (hl : ps.length < 1000000000000) (h0 : 0 ≤ k) (h1 : k < 1000000000000000) (hR : Row w A (pgs ps)) :
    Calls Try.prog 147 #[.slice A ps.length c, .int .i64 k] w fun e w' => e = .returned (.int .i64 (endPs k ps)) ∧ Row w' A (pgs (markPs k ps)) ∧ Agr (blk A) w w' := by
  go_enter Try.func147, Try.ntmps147
  go_wp2
  go_loopw [1, 5] (fun q i wr => ∃ (j : Nat), j ≤ ps.length ∧ i = .int .i64 j ∧ q = .int .i64 (k + 5 * j) ∧ Row wr A (pgs ((markPs k ps).take j ++ ps.drop j)) ∧ Agr (blk A) w wr) (fun _ i _ => ps.length - (intOf i).toNat)
  case atStart => exact ⟨0, by omega, rfl, by simp, by simpa using hR, Agr.refl _ _⟩
  case round =>
    obtain ⟨j, hj, rfl, rfl, hr, hA⟩ := hrel
    have hml := Lib.hid (markPs_len ps k)
    by_cases hlt : j < ps.length
    · obtain ⟨b, o, rfl⟩ := hR.addr (pgs_ne (by rintro rfl; simp at hlt))
      obtain ⟨q, hq⟩ := get_some (l := (markPs k ps).take j ++ ps.drop j) (k := j) (by have := hml.out; simp; omega)
      obtain ⟨c0, c1, c2, c3, c4⟩ := hr.pg hq
      obtain ⟨f0, f1, f2, f3, f4⟩ := hr.pgf hq
      have hW := wrote_page hr hq ⟨k + 5 * j, ⟨k + 5 * j + 1, k + 5 * j + 1 + 1, k + 5 * j + 1 + 1 + 1, k + 5 * j + 1 + 1 + 1 + 1⟩⟩
      have hr2 := hr.setPage (k := j) (by have := hml.out; simp; omega) hW
      rw [mark_step ps k j hlt] at hr2
      have hA2 := hA.trans hW.agr (fun _ _ e => by rw [e]; exact blk_some.2 rfl)
      have hj1 : (j : Int) < ps.length := by omega
      clear hW hq
      go_wp2
      go_roundw
      case rel => exact ⟨j + 1, by omega, by go_num, by congr 1; omega, hr2, hA2⟩
      case measure => simp [intOf]; omega
    · obtain rfl : j = ps.length := by omega
      go_wp2
      go_ret
      rw [List.take_of_length_le (by rw [hml.out]; exact Nat.le_refl _), List.drop_of_length_le (Nat.le_refl _), List.append_nil] at hr
      exact ⟨ret_int (endPs_eq ps k).symm, hr, hA⟩
theorem laws_heldPageS (A : Option Addr) (n c : Nat) (ps : List Pg) (k : Int) (w : World) (hn : n = ps.length) (hl : n < 1000000000000) (h0 : 0 ≤ k) (h1 : k < 1000000000000000) (hR : Row w A (pgs (markPs k ps))) :
    Calls Try.prog 148 #[.slice A n c, .int .i64 k] w fun e w' => e = .returned (.int .i64 (endPs k ps)) ∧ w = w' := by
  have HN := Lib.hid hn
  clear hn
  go_enter Try.func148, Try.ntmps148
  go_wp2
  go_loop [1, 5] (fun q i => ∃ (j : Nat), j ≤ n ∧ i = .int .i64 j ∧ q = .int .i64 (k + 5 * j)) (fun _ i => n - (intOf i).toNat)
  case atStart => exact ⟨0, by omega, rfl, by simp⟩
  case round =>
    obtain ⟨j, hj, rfl, rfl⟩ := hrel
    by_cases hlt : j < n
    · obtain ⟨p, hp⟩ := get_some (l := ps) (k := j) (by have := HN.out; omega)
      have hq := markPs_at ps k j p hp
      obtain ⟨b, o, rfl⟩ := hR.addr (pgs_ne (by intro e; rw [e] at hq; simp at hq))
      obtain ⟨c0, c1, c2, c3, c4⟩ := hR.pg hq
      dsimp only at c0 c1 c2 c3 c4
      have hj1 : (j : Int) < n := by omega
      clear hq hp
      go_wp2
      go_round
      case rel => exact ⟨j + 1, by omega, by go_num, by congr 1; omega⟩
      case measure => simp [intOf]; omega
    · obtain rfl : j = n := by omega
      go_wp2
      go_ret
      exact ⟨ret_int (by rw [endPs_eq, HN.out]), rfl⟩
theorem endFl_le (P : Int) : ∀ (f : List Bk) (k : Int), (∀ b ∈ f, (b.pages.length : Int) ≤ P) → endFl k f ≤ k + (5 * P + 1) * f.length
  | [], k, _ => by simp [endFl]
  | b :: f, k, h => by
    have h1 := endPs_eq b.pages k
    have h2 := endFl_le P f (endPs k b.pages + 1) (fun c hc => h c (List.mem_cons_of_mem _ hc))
    have h3 := h b (List.mem_cons_self ..)
    rw [endFl, List.length_cons]
    have e : (5 * P + 1) * ((f.length + 1 : Nat) : Int) = (5 * P + 1) * f.length + (5 * P + 1) := by rw [Int.natCast_add, Int.mul_add]; simp
    rw [e]; omega
theorem endFl_ge : ∀ (f : List Bk) (k : Int), k ≤ endFl k f
  | [], k => Int.le_refl _
  | b :: f, k => by
    have h1 := endPs_eq b.pages k
    have h2 := endFl_ge f (endPs k b.pages + 1)
    rw [endFl]; omega
/-- where the marks of block j begin -/
def atFl : Int → List Bk → Nat → Int
  | k, _, 0 => k
  | k, [], _ => k
  | k, b :: f, j + 1 => atFl (endPs k b.pages + 1) f j
theorem atFl_succ : ∀ (f : List Bk) (k : Int) (j : Nat) (b : Bk), f[j]? = some b → atFl k f (j + 1) = endPs (atFl k f j) b.pages + 1
  | [], _, _, _, h => by simp at h
  | a :: f, k, 0, b, h => by simp at h; subst h; simp [atFl]
  | a :: f, k, j + 1, b, h => by
    have ih := atFl_succ f (endPs k a.pages + 1) j b (by simpa using h)
    simpa [atFl] using ih
theorem atFl_end : ∀ (f : List Bk) (k : Int) (j : Nat), endFl (atFl k f j) (f.drop j) = endFl k f
  | [], k, j => by cases j <;> simp [atFl, endFl]
  | a :: f, k, 0 => by simp [atFl]
  | a :: f, k, j + 1 => by rw [atFl, List.drop_succ_cons, atFl_end f]; rfl
theorem atFl_ge : ∀ (f : List Bk) (k : Int) (j : Nat), k ≤ atFl k f j
  | [], k, j => by cases j <;> simp [atFl]
  | a :: f, k, 0 => by simp [atFl]
  | a :: f, k, j + 1 => by
    have h1 := endPs_eq a.pages k
    have h2 := atFl_ge f (endPs k a.pages + 1) j
    rw [atFl]; omega
theorem markFl_at : ∀ (f : List Bk) (k : Int) (j : Nat) (b : Bk), f[j]? = some b → (markFl k f)[j]? = some ⟨markPs (atFl k f j) b.pages, endPs (atFl k f j) b.pages⟩
  | [], _, _, _, h => by simp at h
  | a :: f, k, 0, b, h => by simp at h; subst h; simp [markFl, atFl]
  | a :: f, k, j + 1, b, h => by
    rw [markFl, List.getElem?_cons_succ, markFl_at f _ j b (by simpa using h)]; rfl
theorem markFl_step (f : List Bk) (k : Int) (j : Nat) (b : Bk) (h : f[j]? = some b) : ((markFl k f).take j ++ f.drop j).set j ⟨markPs (atFl k f j) b.pages, endPs (atFl k f j) b.pages⟩ = (markFl k f).take (j + 1) ++ f.drop (j + 1) := by
  have hl := markFl_len f k
  have hlt := (List.getElem?_eq_some_iff.1 h).1
  rw [List.set_append_right _ _ (by simp; omega), show j - ((markFl k f).take j).length = 0 by simp; omega, List.drop_eq_getElem_cons hlt, List.set_cons_zero, List.take_add_one, markFl_at f k j b h]
  simp
set_option maxHeartbeats 1000000 in
theorem laws_markBlockS' (A : Option Addr) (n c : Nat) (f : List Bk) (hs : List (Option Addr × Nat)) (k : Int) (lo hi : Nat) (w : World) (hn : n = f.length) (hl : f.length < 1000000000000) (hp : ∀ b ∈ f, b.pages.length < 1000000000000) (h0 : 0 ≤ k) (h1 : endFl k f < 1000000000000000) (hBk : Bks w A f hs) (hApt : Apt lo hi A hs) :
    Calls Try.prog 103 #[.slice A n c, .int .i64 k] w fun e w' => e = .returned (.int .i64 (endFl k f)) ∧ Bks w' A (markFl k f) hs ∧ Agr (fblk A hs) w w' := by
  subst hn
  have HP := Lib.hid hp
  have HML := Lib.hid (markFl_len f k)
  clear hp
  go_enter Try.func103, Try.ntmps103
  go_wp2
  go_loopw [1, 5] (fun q i wr => ∃ (j : Nat), j ≤ f.length ∧ i = .int .i64 j ∧ q = .int .i64 (atFl k f j) ∧ Bks wr A ((markFl k f).take j ++ f.drop j) hs ∧ Agr (fblk A hs) w wr) (fun _ i _ => f.length - (intOf i).toNat)
  case atStart => exact ⟨0, by omega, rfl, by cases f <;> rfl, by simpa using hBk, Agr.refl _ _⟩
  case round =>
    obtain ⟨j, hj, rfl, rfl, hb2, hA⟩ := hrel
    by_cases hlt : j < f.length
    · obtain ⟨B, hB⟩ := get_some hlt
      have hBl := HP.out B (List.mem_of_getElem? hB)
      obtain ⟨g, o, rfl⟩ := hBk.addr (by rintro rfl; simp at hlt)
      have hget : ((markFl k f).take j ++ f.drop j)[j]? = some B := by
        have := HML.out
        rw [List.getElem?_append_right (by simp; omega), List.getElem?_drop, ← hB]; congr 1; simp; omega
      obtain ⟨x, hx, c0, c1, f0, f1, hr, _⟩ := hb2.at_ hget
      have ha0 := atFl_ge f k j
      have hae := atFl_end f k j
      rw [drop_cons hB] at hae
      have hge := endFl_ge (f.drop (j + 1)) (endPs (atFl k f j) B.pages + 1)
      rw [endFl] at hae
      have hpe := endPs_eq B.pages (atFl k f j)
      have hm0 : 0 ≤ atFl k f j := by omega
      have hm1 : atFl k f j < 1000000000000000 := by omega
      have he0 : 0 ≤ endPs (atFl k f j) B.pages := by omega
      have he1 : endPs (atFl k f j) B.pages < 1000000000000000 := by omega
      have hj1 : (j : Int) < f.length := by omega
      have HS := Lib.hid (atFl_succ f k j B hB)
      have HST := Lib.hid (markFl_step f k j B hB)
      have HG := Lib.hid hget
      have HX := Lib.hid hx
      clear hae hge hpe hB hget hx
      go_wp2_with fail
      refine (laws_markPageS x.1 x.2 B.pages (atFl k f j) _ hBl hm0 hm1 hr).mono ?_
      rintro e w1 ⟨rfl, hr1, hA1⟩
      have hb3 := hb2.newPages hApt HG.out HX.out (markPs_len _ _) hr1 hA1
      have hget3 : (((markFl k f).take j ++ f.drop j).set j { B with pages := markPs (atFl k f j) B.pages })[j]? = some { B with pages := markPs (atFl k f j) B.pages } := by
        have := HML.out
        rw [List.getElem?_set_self (by simp; omega)]
      obtain ⟨_, _, d0, d1, g0, g1, _, _⟩ := hb3.at_ hget3
      have hW := wrote_one d1 (.int .i64 (endPs (atFl k f j) B.pages))
      have hb4 := hb3.setHdr (n := endPs (atFl k f j) B.pages) hApt hget3 HX.out (by
        obtain ⟨y, hy, e0, _⟩ := hb3.at_ hget3
        rw [HX.out] at hy; cases hy
        exact hW.less e0)
      rw [List.set_set] at hb4
      dsimp only at hb4
      rw [HST.out] at hb4
      have hgl := hApt.top g (by rw [blk_some])
      have hA4 := (hA.trans hA1 (S := fblk (some ⟨g, o, none⟩) hs) (fun i _ hi' => .inr ⟨j, x, HX.out, hi'⟩)).trans hW.agr (fun i _ e => .inl (by rw [e, blk_some]))
      clear hW hb3 hget3 hA1 hr1 c0 c1 hr
      go_wp2
      go_roundw
      case rel => exact ⟨j + 1, by omega, by go_num, by rw [HS.out], hb4, hA4⟩
      case measure => simp [intOf]; omega
    · obtain rfl : j = f.length := by omega
      go_wp2
      go_ret
      have := HML.out
      rw [List.take_of_length_le (by omega), List.drop_of_length_le (Nat.le_refl _), List.append_nil] at hb2
      have he := atFl_end f k f.length
      rw [List.drop_of_length_le (Nat.le_refl _), endFl] at he
      exact ⟨ret_int he, hb2, hA⟩
theorem laws_heldBlockS (A : Option Addr) (n c : Nat) (f : List Bk) (k : Int) (w : World) (hn : n = f.length) (hl : n < 1000000000000) (hp : ∀ b ∈ f, b.pages.length < 1000000000000) (h0 : 0 ≤ k) (h1 : endFl k f < 1000000000000000) (hF : Fl w A (markFl k f)) :
    Calls Try.prog 105 #[.slice A n c, .int .i64 k] w fun e w' => e = .returned (.int .i64 (endFl k f)) ∧ w = w' := by
  obtain ⟨hs, hBk⟩ := hF
  have HP := Lib.hid hp
  have HN := Lib.hid hn
  clear hp hn
  go_enter Try.func105, Try.ntmps105
  go_wp2
  go_loop [1, 5] (fun q i => ∃ (j : Nat), j ≤ n ∧ i = .int .i64 j ∧ q = .int .i64 (atFl k f j)) (fun _ i => n - (intOf i).toNat)
  case atStart => exact ⟨0, by omega, rfl, by cases f <;> rfl⟩
  case round =>
    obtain ⟨j, hj, rfl, rfl⟩ := hrel
    by_cases hlt : j < n
    · obtain ⟨B, hB⟩ := get_some (l := f) (k := j) (by have := HN.out; omega)
      have hBl := HP.out B (List.mem_of_getElem? hB)
      have hget := markFl_at f k j B hB
      obtain ⟨g, o, rfl⟩ := hBk.addr (by intro e; rw [e] at hget; simp at hget)
      obtain ⟨x, hx, c0, c1, f0, f1, hr, _⟩ := hBk.at_ hget
      dsimp only at c0 c1 hr
      have ha0 := atFl_ge f k j
      have hae := atFl_end f k j
      rw [drop_cons hB] at hae
      have hge := endFl_ge (f.drop (j + 1)) (endPs (atFl k f j) B.pages + 1)
      rw [endFl] at hae
      have hpe := endPs_eq B.pages (atFl k f j)
      have hm0 : 0 ≤ atFl k f j := by omega
      have hm1 : atFl k f j < 1000000000000000 := by omega
      have he0 : 0 ≤ endPs (atFl k f j) B.pages := by omega
      have he1 : endPs (atFl k f j) B.pages < 1000000000000000 := by omega
      have hj1 : (j : Int) < n := by omega
      have HS := Lib.hid (atFl_succ f k j B hB)
      have hml := markPs_len B.pages (atFl k f j)
      have hml1 : (markPs (atFl k f j) B.pages).length < 1000000000000 := by omega
      have HML := Lib.hid hml
      clear hae hge hpe hB hget hx hml
      go_wp2_with fail
      refine (laws_heldPageS x.1 _ x.2 B.pages (atFl k f j) _ HML.out hml1 hm0 hm1 hr).mono ?_
      rintro e w1 ⟨rfl, rfl⟩
      go_wp2
      go_round
      case rel => exact ⟨j + 1, by omega, by go_num, by rw [HS.out]⟩
      case measure => simp [intOf]; omega
    · obtain rfl : j = n := by omega
      go_wp2
      go_ret
      have he := atFl_end f k f.length
      rw [List.drop_of_length_le (Nat.le_refl _), endFl] at he
      exact ⟨ret_int (by rw [HN.out]; exact he), rfl⟩
end Go.Proofs.Ytbekihiiildgmaa
namespace Go.Proofs.Ytbekihiiildgmaa
set_option linter.unusedVariables false
set_option linter.unusedSimpArgs false
open Go.RowKit Go.Maps
set_option maxHeartbeats 400000
theorem OFl.far {w w' : World} {lo hi lo' hi' : Nat} {A : Option Addr} {f : List Bk} (h : OFl w lo hi A f) (ha : Agr (fun b => lo' ≤ b ∧ b < hi') w w') (hd : hi ≤ lo' ∨ hi' ≤ lo) : OFl w' lo hi A f :=
  h.agr ha fun b h1 h2 h3 => by omega
end Go.Proofs.Ytbekihiiildgmaa
namespace Go.Proofs.Ytbekihiiildgmaa
set_option linter.unusedVariables false
set_option linter.unusedSimpArgs false
open Go.RowKit Go.Maps
set_option maxHeartbeats 400000
/-- a store of one's own: a flash and a row of numbers, in blocks from lo on and below hi -/
def OSt (w : World) (lo hi : Nat) (A : Option Addr) (f : List Bk) (D : Option Addr) (xs : List Int) : Prop :=
  ∃ hs, Bks w A f hs ∧ Apt lo hi A hs ∧ Row w D (ints xs) ∧ ∀ b, blk D b → lo ≤ b ∧ b < hi ∧ ¬ blk A b ∧ ∀ (i : Nat) (x : Option Addr × Nat), hs[i]? = some x → ¬ blk x.1 b
theorem OSt.keep {w w' : World} {lo hi : Nat} {A D : Option Addr} {f : List Bk} {xs : List Int} (h : OSt w lo hi A f D xs) (hk : ∀ b, lo ≤ b → b < hi → b < w.heap.size → w'.heap[b]? = w.heap[b]?) : OSt w' lo hi A f D xs := by
  obtain ⟨hs, h1, h2, h3, h4⟩ := h
  refine ⟨hs, h1.keep fun b hb hl => ?_, h2, h3.keep fun b hb hl => hk b (h4 b hb).1 (h4 b hb).2.1 hl, h4⟩
  rcases hb with hb | ⟨x, hx, hb⟩
  · have := h2.top b hb; exact hk b this.1 this.2 hl
  · obtain ⟨i, hi'⟩ := List.getElem?_of_mem hx
    have := h2.in_ i x b hi' hb; exact hk b this.1 this.2.1 hl
theorem OSt.below {w w' : World} {lo hi B : Nat} {A D : Option Addr} {f : List Bk} {xs : List Int} (h : OSt w lo hi A f D xs) (hb : Below B w w') (hB : w.heap.size ≤ B) : OSt w' lo hi A f D xs := h.keep fun b _ _ hl => hb.block b (by omega)
theorem OSt.far {w w' : World} {lo hi lo' hi' : Nat} {A D : Option Addr} {f : List Bk} {xs : List Int} (h : OSt w lo hi A f D xs) (ha : Agr (fun b => lo' ≤ b ∧ b < hi') w w') (hd : hi ≤ lo' ∨ hi' ≤ lo) : OSt w' lo hi A f D xs :=
  h.keep fun b h1 h2 hl => ha.block b hl (by omega)
theorem OSt.ofl {w : World} {lo hi : Nat} {A D : Option Addr} {f : List Bk} {xs : List Int} (h : OSt w lo hi A f D xs) : OFl w lo hi A f := by obtain ⟨hs, h1, h2, _⟩ := h; exact ⟨hs, h1, h2⟩
theorem OSt.disk {w : World} {lo hi : Nat} {A D : Option Addr} {f : List Bk} {xs : List Int} (h : OSt w lo hi A f D xs) : Row w D (ints xs) := by obtain ⟨hs, _, _, h3, _⟩ := h; exact h3
theorem OSt.mono {w : World} {lo hi lo' hi' : Nat} {A D : Option Addr} {f : List Bk} {xs : List Int} (h : OSt w lo hi A f D xs) (h1 : lo' ≤ lo) (h2 : hi ≤ hi') : OSt w lo' hi' A f D xs := by
  obtain ⟨hs, a, b, c, d⟩ := h
  exact ⟨hs, a, b.mono h1 h2, c, fun x hx => by have := d x hx; exact ⟨by omega, by omega, this.2.2⟩⟩
/-- the flash lies in some blocks, the numbers in others -/
theorem OSt.mk' {w : World} {lo hi lf hf d o : Nat} {A : Option Addr} {f : List Bk} {xs : List Int} (h : OFl w lf hf A f) (hr : Row w (some ⟨d, o, none⟩) (ints xs)) (h1 : lo ≤ lf) (h2 : hf ≤ hi) (h3 : lo ≤ d) (h4 : d < hi) (h5 : d < lf ∨ hf ≤ d) : OSt w lo hi A f (some ⟨d, o, none⟩) xs := by
  obtain ⟨hs, a, b⟩ := h
  refine ⟨hs, a, b.mono h1 h2, hr, fun x hx => ?_⟩
  rw [blk_some] at hx
  subst hx
  exact ⟨h3, h4, fun e => by have := b.top d e; omega, fun i y hy e => by have := b.in_ i y d hy e; omega⟩
theorem make_disk (w : World) : (Instr.makeSlice 24 (.int .i64 6) (.int .i64 6)).run Try.prog w = .ok (.slice (some ⟨w.heap.size, 0, none⟩) 6 6) (w.alloc (.cells #[.int .i64 0, .int .i64 0, .int .i64 0, .int .i64 0, .int .i64 0, .int .i64 0] 3)) := by kernel_rfl
def disk0 : List Int := [0, 0, 0, 0, 0, 0]
end Go.Proofs.Ytbekihiiildgmaa
namespace Go.Proofs.Ytbekihiiildgmaa
set_option linter.unusedVariables false
set_option linter.unusedSimpArgs false
open Go.RowKit Go.Maps
set_option maxHeartbeats 400000
end Go.Proofs.Ytbekihiiildgmaa
namespace Go.Proofs.Ytbekihiiildgmaa
set_option linter.unusedVariables false
set_option linter.unusedSimpArgs false
open Go.RowKit Go.Maps
set_option maxHeartbeats 400000
theorem OSt.alloc' {w : World} {lo hi : Nat} {A D : Option Addr} {f : List Bk} {xs : List Int} (h : OSt w lo hi A f D xs) (o : Obj) : OSt (w.alloc o) lo hi A f D xs := h.below (B := w.heap.size) ((Below.refl _ _).alloc (Nat.le_refl _) _) (Nat.le_refl _)
theorem cell3 {w : World} {a b c : Obj} {i : Nat} {u : Option Value} (h : (w.alloc a).cell? ⟨w.heap.size, i, none⟩ = u) : (((w.alloc a).alloc b).alloc c).cell? ⟨w.heap.size, i, none⟩ = u :=
  ((((Below.refl (w.heap.size + 1) (w.alloc a)).alloc (by simp) b).alloc (by simp) c).cell (p := ⟨w.heap.size, i, none⟩) (by show w.heap.size < _; omega)).trans h
theorem fz3 {w : World} {a b c : Obj} {i : Nat} {u : Bool} (h : (w.alloc a).frozen? ⟨w.heap.size, i, none⟩ = u) : (((w.alloc a).alloc b).alloc c).frozen? ⟨w.heap.size, i, none⟩ = u :=
  ((((Below.refl (w.heap.size + 1) (w.alloc a)).alloc (by simp) b).alloc (by simp) c).frozen (p := ⟨w.heap.size, i, none⟩) (by show w.heap.size < _; omega)).trans h
theorem top3 (w : World) (a b : Obj) (cs : Array Value) (t : TypeId) : Row (((w.alloc a).alloc b).alloc (.cells cs t)) (some ⟨w.heap.size + 1 + 1, 0, none⟩) cs.toList := by
  have := Row.new ((w.alloc a).alloc b) cs t
  simp only [World.size_alloc] at this
  exact this
theorem Row.at0 {w : World} {b : Nat} {vs : List Value} {j : Nat} {u : Value} (h : Row w (some ⟨b, 0, none⟩) vs) (hj : vs[j]? = some u) : w.cell? ⟨b, j, none⟩ = some u ∧ w.frozen? ⟨b, j, none⟩ = false := by
  obtain ⟨b', o', he, hc⟩ := h (by rintro rfl; simp at hj)
  cases he
  have := hc j u hj
  rwa [Nat.zero_add] at this
theorem row_ne6 {xs : List Int} (h : xs.length = 6) : ints xs ≠ [] := by
  intro e
  have := congrArg List.length e
  rw [ints_len, h] at this
  simp at this
set_option maxHeartbeats 4000000 in
set_option maxRecDepth 100000 in
theorem spec_l12Do (s : St) (x : Sp) (torn : Bool) (A D : Option Addr) (c d lo hi : Nat) (w : World) (hs : stFine s) (hx : spFine x) (hhi : hi ≤ w.heap.size) (hO : OSt w lo hi A s.flash D s.disk) :
    Calls Try.prog 134 #[.agg #[.slice A 4 c, .slice D 6 d], .agg #[.int .i64 x.kind, .int .i64 x.addr, .int .i64 x.val, .int .i64 x.block, .int .i64 x.rc.kind, .int .i64 x.rc.seq, .int .i64 x.rc.addr, .int .i64 x.rc.val], .bool torn] w fun r w' =>
      r = .returned (.agg #[.slice A 4 c, .slice D 6 d]) ∧ OSt w' lo hi A (doStep s x torn).flash D (doStep s x torn).disk ∧ Agr (fun b => lo ≤ b ∧ b < hi) w w' := by
  obtain ⟨k, a, v, b, rc⟩ := x
  dsimp only
  have hfin : Hid (doStep s ⟨k, a, v, b, rc⟩ torn = if k = 1 then (if torn then s else { s with disk := s.disk.set (a - 1).toNat v }) else if k = 2 then { s with flash := (wipeR s.flash b.toNat torn).1 } else if k = 3 then { s with flash := (writeR s.flash b.toNat rc torn).1 } else s) := rfl
  obtain ⟨hsf, hsd, hsv⟩ := hs
  obtain ⟨hx1, hx2, hx3⟩ := hx
  dsimp only at hx1 hx2 hx3
  have hOS := Lib.hid hO
  obtain ⟨hs, hBk, hApt, hR, hdj⟩ := hO
  have HDJ := Lib.hid hdj
  obtain ⟨db, dO, rfl⟩ := hR.addr (row_ne6 hsd)
  have hdb := HDJ.out db (blk_some.2 rfl)
  by_cases h1 : k = 1
  · subst h1
    obtain ⟨ha1, ha2, hv1, hv2⟩ := hx1 rfl
    obtain ⟨i, rfl⟩ : ∃ i : Nat, a = i + 1 := ⟨(a - 1).toNat, by omega⟩
    have hi6 : i < 6 := by omega
    have hi6' : (i : Int) < 6 := by omega
    cases torn
    · have h3 : Hid (doStep s ⟨1, i + 1, v, b, rc⟩ false = { s with disk := s.disk.set i v }) := by rw [Hid, hfin.out, if_pos rfl, show ((i : Int) + 1 - 1).toNat = i by omega]; rfl
      obtain ⟨u, hu⟩ := get_some (l := s.disk) (k := i) (by omega)
      obtain ⟨c0, f0⟩ := hR.int_ hu
      have hlt := lt_of_cell c0
      have hW := wrote_one c0 (.int .i64 v)
      have hR2 : Row (w.setCell ⟨db, dO + i, none⟩ (.int .i64 v)) (some ⟨db, dO, none⟩) (ints (s.disk.set i v)) := by
        rw [ints_set]
        exact hW.row hR (by rw [ints_len]; simp; omega)
      have hO2 : OSt (w.setCell ⟨db, dO + i, none⟩ (.int .i64 v)) lo hi A s.flash (some ⟨db, dO, none⟩) (s.disk.set i v) :=
        ⟨hs, hBk.keep fun y hy hl => hW.agr.block y hl (by
          rintro rfl
          rcases hy with hy | ⟨z, hz, hy⟩
          · exact hdb.2.2.1 hy
          · obtain ⟨j, hj⟩ := List.getElem?_of_mem hz
            exact hdb.2.2.2 j z hj hy), hApt, hR2, HDJ.out⟩
      have hA2 : Agr (fun y => lo ≤ y ∧ y < hi) w (w.setCell ⟨db, dO + i, none⟩ (.int .i64 v)) := hW.agr.mono fun y e => by rw [e]; exact ⟨hdb.1, hdb.2.1⟩
      have e1 : IntKind.i64.wrap ((i : Int) + 1 - 1) = i := by rw [show (i : Int) + 1 - 1 = i by omega]; exact IntWalk.i64_in _ (by omega)
      have e2 : IntKind.i64.wrap (i : Int) = i := IntWalk.i64_in _ (by omega)
      have HU := Lib.hid hu
      have m1 : db < w.heap.size + 1 := by omega
      have m2 : db < w.heap.size + 1 + 1 := by omega
      have n0 : db ≠ w.heap.size := by omega
      have n0' : w.heap.size ≠ db := by omega
      have n1 : db ≠ w.heap.size + 1 := by omega
      have n1' : w.heap.size + 1 ≠ db := by omega
      have n2 : db ≠ w.heap.size + 1 + 1 := by omega
      have n2' : w.heap.size + 1 + 1 ≠ db := by omega
      clear hu hW hsf hsd hsv hfin hdj
      go_enter Try.func134, Try.ntmps134
      go_wp2
      refine bodyPost_ret (v := .agg #[.slice A 4 c, .slice (some ⟨db, dO, none⟩) 6 d]) (by simp [results, Try.results134, go_sem]) rfl ⟨rfl, ?_, ?_⟩
      · rw [h3.out]; exact ((hO2.alloc' _).alloc' _).alloc' _
      · exact ((hA2.alloc _).alloc _).alloc _
    · have h3 : Hid (doStep s ⟨1, i + 1, v, b, rc⟩ true = s) := by rw [Hid, hfin.out, if_pos rfl]; rfl
      clear hsf hsd hsv hfin hdj
      go_enter Try.func134, Try.ntmps134
      go_wp2
      refine bodyPost_ret (v := .agg #[.slice A 4 c, .slice (some ⟨db, dO, none⟩) 6 d]) (by simp [results, Try.results134, go_sem]) rfl ⟨rfl, ?_, ?_⟩
      · rw [h3.out]; exact ((hOS.out.alloc' _).alloc' _).alloc' _
      · exact (((Agr.refl _ _).alloc _).alloc _).alloc _
  · have hi4s : ∀ y ∈ s.flash, y.pages.length = 4 ∧ 0 ≤ y.worn ∧ y.worn ≤ 200 := fun y hy => ⟨(hsf.2 y hy).1, (hsf.2 y hy).2.1, (hsf.2 y hy).2.2.1⟩
    have hi4p : ∀ y ∈ s.flash, y.pages.length = 4 := fun y hy => (hsf.2 y hy).1
    have HS4 := Lib.hid hi4s
    have HP4 := Lib.hid hi4p
    clear hi4s hi4p
    by_cases h2 : k = 2
    · subst h2
      have hb := hx2 (.inl rfl)
      obtain ⟨hb1, hb2⟩ := hb
      obtain ⟨i, rfl⟩ := Int.eq_ofNat_of_zero_le hb1
      have hi4 : i < 4 := by omega
      obtain ⟨g, o, rfl⟩ := hBk.addr (by intro e; have := hsf.1; rw [e] at this; simp at this)
      have h3 : Hid (doStep s ⟨2, a, v, i, rc⟩ torn = { s with flash := (wipeR s.flash i torn).1 }) := by
        rw [Hid, hfin.out, if_neg (by omega), if_pos rfl, Int.toNat_natCast]
      obtain ⟨W, hW⟩ : ∃ W, W = ((w.alloc (.cells #[.slice (some ⟨g, o, none⟩) 4 c, .slice (some ⟨db, dO, none⟩) 6 d] 26)).alloc (.cells #[.int .i64 2, .int .i64 a, .int .i64 v, .int .i64 i, .int .i64 rc.kind, .int .i64 rc.seq, .int .i64 rc.addr, .int .i64 rc.val] 47)).alloc (.cells #[.slice none 0 0, .slice none 0 0] 26) := ⟨_, rfl⟩
      have hBkW : Bks W (some ⟨g, o, none⟩) s.flash hs := by rw [hW]; exact ((hBk.alloc _).alloc _).alloc _
      have hRW : Row W (some ⟨db, dO, none⟩) (ints s.disk) := by rw [hW]; exact ((hR.alloc _).alloc _).alloc _
      have hAW : Agr (fun y => lo ≤ y ∧ y < hi) w W := by rw [hW]; exact (((Agr.refl _ _).alloc _).alloc _).alloc _
      have b0 : W.cell? ⟨w.heap.size, 0, none⟩ = some (.slice (some ⟨g, o, none⟩) 4 c) := by rw [hW]; exact cell3 (by simp)
      have b1 : W.cell? ⟨w.heap.size, 1, none⟩ = some (.slice (some ⟨db, dO, none⟩) 6 d) := by rw [hW]; exact cell3 (by simp)
      have b2 : W.frozen? ⟨w.heap.size, 0, none⟩ = false := by rw [hW]; exact fz3 (by simp)
      have q0 : W.cell? ⟨w.heap.size + 1 + 1, 0, none⟩ = some (.slice none 0 0) := by rw [hW]; exact ((top3 w _ _ #[.slice none 0 0, .slice none 0 0] 26).at0 (j := 0) rfl).1
      have q1 : W.cell? ⟨w.heap.size + 1 + 1, 1, none⟩ = some (.slice none 0 0) := by rw [hW]; exact ((top3 w _ _ #[.slice none 0 0, .slice none 0 0] 26).at0 (j := 1) rfl).1
      have q2 : W.frozen? ⟨w.heap.size + 1 + 1, 0, none⟩ = false := by rw [hW]; exact ((top3 w _ _ #[.slice none 0 0, .slice none 0 0] 26).at0 (j := 0) rfl).2
      have q3 : W.frozen? ⟨w.heap.size + 1 + 1, 1, none⟩ = false := by rw [hW]; exact ((top3 w _ _ #[.slice none 0 0, .slice none 0 0] 26).at0 (j := 1) rfl).2
      have hWs : W.heap.size = w.heap.size + 1 + 1 + 1 := by rw [hW]; simp
      have HW := Lib.hid hW
      have HSF := Lib.hid hsf
      clear hsf hsd hsv hfin hdj hW
      go_enter Try.func134, Try.ntmps134
      go_wp2_with fail
      rw [← HW.out]
      refine (spec_l2Wipe' s.flash i lo hi g o c torn _ HSF.out.1 HS4.out hi4 hs hBkW hApt).mono ?_
      rintro e w1 ⟨rfl, hBk1, hA1⟩
      have hnot : ∀ j, w.heap.size ≤ j → ¬ fblk (some ⟨g, o, none⟩) hs j := fun j hj h => by have := hApt.fblk h; omega
      replace b0 := (hA1.cell (by omega) (hnot _ (by omega)) 0).trans b0
      replace b1 := (hA1.cell (by omega) (hnot _ (by omega)) 1).trans b1
      replace b2 := (hA1.fz (by omega) (hnot _ (by omega)) 0).trans b2
      replace q0 := (hA1.cell (by omega) (hnot _ (by omega)) 0).trans q0
      replace q1 := (hA1.cell (by omega) (hnot _ (by omega)) 1).trans q1
      replace q2 := (hA1.fz (by omega) (hnot _ (by omega)) 0).trans q2
      replace q3 := (hA1.fz (by omega) (hnot _ (by omega)) 1).trans q3
      have hR1 : Row w1 (some ⟨db, dO, none⟩) (ints s.disk) := hRW.agr hA1 fun y hy hS => by
        rcases hS with h | ⟨j, z, hz, h⟩
        · exact (HDJ.out y hy).2.2.1 h
        · exact (HDJ.out y hy).2.2.2 j z hz h
      have hO1 : OSt w1 lo hi (some ⟨g, o, none⟩) (wipeR s.flash i torn).1 (some ⟨db, dO, none⟩) s.disk := ⟨hs, hBk1, hApt, hR1, HDJ.out⟩
      have hA2 : Agr (fun y => lo ≤ y ∧ y < hi) w w1 := hAW.trans hA1 fun y _ hy => hApt.fblk hy
      have hs1 := hA1.size
      clear hA1 hBk1 hR1 hRW hBkW hAW hnot
      go_wp2
      refine bodyPost_ret (v := .agg #[.slice (some ⟨g, o, none⟩) 4 c, .slice (some ⟨db, dO, none⟩) 6 d]) (by simp [results, Try.results134, go_sem, b0, b1, q0, q1]) rfl ⟨rfl, ?_, ?_⟩
      · rw [h3.out]
        have hbb : Below w.heap.size w1 (((w1.setCell ⟨w.heap.size, 0, none⟩ (.slice (some ⟨g, o, none⟩) 4 c)).setCell ⟨w.heap.size + 1 + 1, 0, none⟩ (.slice (some ⟨g, o, none⟩) 4 c)).setCell ⟨w.heap.size + 1 + 1, 1, none⟩ (.slice (some ⟨db, dO, none⟩) 6 d)) := by (repeat (first | (with_reducible exact Below.refl _ _) | (with_reducible assumption) | (refine Below.setCell ?_ (by first | omega | exact hB.size | exact hb.size | (have h := hB.size; simp; omega) | (have h := hb.size; simp; omega) | (simp; omega) | simp) _) | (refine Below.alloc ?_ (by first | omega | exact hB.size | exact hb.size | (have h := hB.size; simp; omega) | (have h := hb.size; simp; omega) | (simp; omega) | simp) _) | (refine Below.drew ?_)))
        exact hO1.keep fun y _ h2 _ => hbb.block y (by omega)
      · exact ((hA2.setCell (.inl (by simp)) _).setCell (.inl (by show w.heap.size ≤ w.heap.size + 1 + 1; omega)) _).setCell (.inl (by show w.heap.size ≤ w.heap.size + 1 + 1; omega)) _
    · by_cases h4 : k = 3
      · subst h4
        have hb := hx2 (.inr rfl)
        obtain ⟨hb1, hb2⟩ := hb
        obtain ⟨i, rfl⟩ := Int.eq_ofNat_of_zero_le hb1
        have hi4 : i < 4 := by omega
        obtain ⟨g, o, rfl⟩ := hBk.addr (by intro e; have := hsf.1; rw [e] at this; simp at this)
        have h3 : Hid (doStep s ⟨3, a, v, i, rc⟩ torn = { s with flash := (writeR s.flash i rc torn).1 }) := by
          rw [Hid, hfin.out, if_neg (by omega), if_neg (by omega), if_pos rfl, Int.toNat_natCast]
        obtain ⟨W, hW⟩ : ∃ W, W = ((w.alloc (.cells #[.slice (some ⟨g, o, none⟩) 4 c, .slice (some ⟨db, dO, none⟩) 6 d] 26)).alloc (.cells #[.int .i64 3, .int .i64 a, .int .i64 v, .int .i64 i, .int .i64 rc.kind, .int .i64 rc.seq, .int .i64 rc.addr, .int .i64 rc.val] 47)).alloc (.cells #[.slice none 0 0, .slice none 0 0] 26) := ⟨_, rfl⟩
        have hBkW : Bks W (some ⟨g, o, none⟩) s.flash hs := by rw [hW]; exact ((hBk.alloc _).alloc _).alloc _
        have hRW : Row W (some ⟨db, dO, none⟩) (ints s.disk) := by rw [hW]; exact ((hR.alloc _).alloc _).alloc _
        have hAW : Agr (fun y => lo ≤ y ∧ y < hi) w W := by rw [hW]; exact (((Agr.refl _ _).alloc _).alloc _).alloc _
        have b0 : W.cell? ⟨w.heap.size, 0, none⟩ = some (.slice (some ⟨g, o, none⟩) 4 c) := by rw [hW]; exact cell3 (by simp)
        have b1 : W.cell? ⟨w.heap.size, 1, none⟩ = some (.slice (some ⟨db, dO, none⟩) 6 d) := by rw [hW]; exact cell3 (by simp)
        have b2 : W.frozen? ⟨w.heap.size, 0, none⟩ = false := by rw [hW]; exact fz3 (by simp)
        have q0 : W.cell? ⟨w.heap.size + 1 + 1, 0, none⟩ = some (.slice none 0 0) := by rw [hW]; exact ((top3 w _ _ #[.slice none 0 0, .slice none 0 0] 26).at0 (j := 0) rfl).1
        have q1 : W.cell? ⟨w.heap.size + 1 + 1, 1, none⟩ = some (.slice none 0 0) := by rw [hW]; exact ((top3 w _ _ #[.slice none 0 0, .slice none 0 0] 26).at0 (j := 1) rfl).1
        have q2 : W.frozen? ⟨w.heap.size + 1 + 1, 0, none⟩ = false := by rw [hW]; exact ((top3 w _ _ #[.slice none 0 0, .slice none 0 0] 26).at0 (j := 0) rfl).2
        have q3 : W.frozen? ⟨w.heap.size + 1 + 1, 1, none⟩ = false := by rw [hW]; exact ((top3 w _ _ #[.slice none 0 0, .slice none 0 0] 26).at0 (j := 1) rfl).2
        have hWs : W.heap.size = w.heap.size + 1 + 1 + 1 := by rw [hW]; simp
        have HW := Lib.hid hW
        have HSF := Lib.hid hsf
        clear hsf hsd hsv hfin hdj hW
        go_enter Try.func134, Try.ntmps134
        go_wp2_with fail
        rw [← HW.out]
        refine (spec_l2Write' s.flash i lo hi g o c rc torn _ HSF.out.1 HP4.out hi4 hs hBkW hApt).mono ?_
        rintro e w1 ⟨rfl, hBk1, hA1⟩
        have hnot : ∀ j, w.heap.size ≤ j → ¬ fblk (some ⟨g, o, none⟩) hs j := fun j hj h => by have := hApt.fblk h; omega
        replace b0 := (hA1.cell (by omega) (hnot _ (by omega)) 0).trans b0
        replace b1 := (hA1.cell (by omega) (hnot _ (by omega)) 1).trans b1
        replace b2 := (hA1.fz (by omega) (hnot _ (by omega)) 0).trans b2
        replace q0 := (hA1.cell (by omega) (hnot _ (by omega)) 0).trans q0
        replace q1 := (hA1.cell (by omega) (hnot _ (by omega)) 1).trans q1
        replace q2 := (hA1.fz (by omega) (hnot _ (by omega)) 0).trans q2
        replace q3 := (hA1.fz (by omega) (hnot _ (by omega)) 1).trans q3
        have hR1 : Row w1 (some ⟨db, dO, none⟩) (ints s.disk) := hRW.agr hA1 fun y hy hS => by
          rcases hS with h | ⟨j, z, hz, h⟩
          · exact (HDJ.out y hy).2.2.1 h
          · exact (HDJ.out y hy).2.2.2 j z hz h
        have hO1 : OSt w1 lo hi (some ⟨g, o, none⟩) (writeR s.flash i rc torn).1 (some ⟨db, dO, none⟩) s.disk := ⟨hs, hBk1, hApt, hR1, HDJ.out⟩
        have hA2 : Agr (fun y => lo ≤ y ∧ y < hi) w w1 := hAW.trans hA1 fun y _ hy => hApt.fblk hy
        have hs1 := hA1.size
        clear hA1 hBk1 hR1 hRW hBkW hAW hnot
        go_wp2
        refine bodyPost_ret (v := .agg #[.slice (some ⟨g, o, none⟩) 4 c, .slice (some ⟨db, dO, none⟩) 6 d]) (by simp [results, Try.results134, go_sem, b0, b1, q0, q1]) rfl ⟨rfl, ?_, ?_⟩
        · rw [h3.out]
          have hbb : Below w.heap.size w1 (((w1.setCell ⟨w.heap.size, 0, none⟩ (.slice (some ⟨g, o, none⟩) 4 c)).setCell ⟨w.heap.size + 1 + 1, 0, none⟩ (.slice (some ⟨g, o, none⟩) 4 c)).setCell ⟨w.heap.size + 1 + 1, 1, none⟩ (.slice (some ⟨db, dO, none⟩) 6 d)) := by (repeat (first | (with_reducible exact Below.refl _ _) | (with_reducible assumption) | (refine Below.setCell ?_ (by first | omega | exact hB.size | exact hb.size | (have h := hB.size; simp; omega) | (have h := hb.size; simp; omega) | (simp; omega) | simp) _) | (refine Below.alloc ?_ (by first | omega | exact hB.size | exact hb.size | (have h := hB.size; simp; omega) | (have h := hb.size; simp; omega) | (simp; omega) | simp) _) | (refine Below.drew ?_)))
          exact hO1.keep fun y _ h2 _ => hbb.block y (by omega)
        · exact ((hA2.setCell (.inl (by simp)) _).setCell (.inl (by show w.heap.size ≤ w.heap.size + 1 + 1; omega)) _).setCell (.inl (by show w.heap.size ≤ w.heap.size + 1 + 1; omega)) _
      · have h3 : Hid (doStep s ⟨k, a, v, b, rc⟩ torn = s) := by rw [Hid, hfin.out, if_neg h1, if_neg h2, if_neg h4]
        have e1 : (k == 1) = false := by simp [h1]
        have e2 : (k == 2) = false := by simp [h2]
        have e3 : (k == 3) = false := by simp [h4]
        clear hsf hsd hsv hfin hdj
        go_enter Try.func134, Try.ntmps134
        go_wp2
        refine bodyPost_ret (v := .agg #[.slice A 4 c, .slice (some ⟨db, dO, none⟩) 6 d]) (by simp [results, Try.results134, go_sem]) rfl ⟨rfl, ?_, ?_⟩
        · rw [h3.out]; exact ((hOS.out.alloc' _).alloc' _).alloc' _
        · exact (((Agr.refl _ _).alloc _).alloc _).alloc _
end Go.Proofs.Ytbekihiiildgmaa
namespace Go.Proofs.Ytbekihiiildgmaa
set_option linter.unusedVariables false
set_option linter.unusedSimpArgs false
open Go.RowKit
def OnlyNormal (K : Act → World → Prop) : Exit → Act → World → Prop
  | .normal, a, w => K a w
  | _, _, _ => False
def noDefer (o : Oper) : Bool := match o.op with
  | .defer _ => false
  | _ => true
theorem noDefer_spec {o : Oper} (h : noDefer o = true) : ∀ c, o.op ≠ .defer c := fun c e => by
  unfold noDefer at h; rw [e] at h; cases h
section
variable {P : Program} {ops : Array Oper} {md : Region.Mode} {K : Act → World → Prop} {Q : Exit → Act → World → Prop} {l n : Nat}
theorem op_round {i : Nat} {K1 K2 : Act → World → Prop} {a : Act} {w : World} (hnd : ops.all noDefer = true) (hK : ∀ a w, K1 a w → K2 a w) (h : wpOp P ops (OnlyNormal K) i K1 a w) :
    wpOpIn (Fence.wide.inRound l) n P ops Q i K2 a w := by
  unfold wpOp at h
  unfold wpOpIn
  cases ho : ops[i]? with
  | none => simp only [ho] at h ⊢; exact hK _ _ h
  | some o =>
    simp only [ho] at h ⊢
    have hd : ∀ c, o.op ≠ .defer c := noDefer_spec (by
      rw [Array.all_eq_true'] at hnd
      exact hnd o (Array.mem_of_getElem? ho))
    split
    · rename_i hw
      simp only [hw, if_true] at h
      rcases h with h | ⟨_, _, _, h⟩
      · unfold Oper.wp at h
        refine ⟨fun _ _ => trivial, ?_⟩
        rw [Oper.semAt_eq _ _ _ hd]
        generalize (execOp a.eval o).run P w = r at h
        cases r with
        | ok nx w' =>
          cases nx with
          | value v => exact hK _ _ h
          | skip => exact hK _ _ h
          | defer d => exact hK _ _ h
          | enter f args =>
            refine ⟨fun hd => (by cases hd), ?_⟩
            refine (callsIn_wide.2 (Calls.mono (R := fun | .returned v, w'' => K1 (a.put o.dst v) w'' | .panicked chain, w'' => OnlyNormal K (.panic chain) a w'' | .outgrown, _ => LetsOut (OnlyNormal K)) h fun e w'' he => ?_)).inRound l
            cases e with
            | returned v => exact hK _ _ he
            | panicked c => exact he.elim
            | outgrown => obtain ⟨_, _, hf⟩ := he; exact hf.elim
          | row row args => exact ⟨fun hd => (by cases hd), fun c cs _ => by
              obtain ⟨v, w'', r, s⟩ := h c cs
              exact ⟨v, w'', hK _ _ r, stepsIn_wide.2 s⟩⟩
          | round _ _ _ _ _ => exact h.elim
          | _ => exact h.elim
        | halt hh w' =>
          cases hh with
          | panic v => exact h.elim
          | _ => exact h.elim
      · exact h.elim
    · rename_i hw
      simp only [hw] at h
      exact ⟨fun _ _ => trivial, hK _ _ h⟩
theorem any_round (hnd : ops.all noDefer = true) (hQ : ∀ a w, K a w → Q .normal a w) : ∀ (fuel : Nat) (listed : Array Bool) (a : Act) (w : World), wpAny P md ops (OnlyNormal K) fuel listed a w → wpAnyIn (Fence.wide.inRound l) n P md ops Q fuel listed a w
  | 0, _, _, _, h => ⟨h.1, hQ _ _ h.2⟩
  | fuel + 1, listed, a, w, h => ⟨fun e => hQ _ _ (h.1 e), fun i hi => op_round hnd (fun a w => any_round hnd hQ fuel _ a w) (h.2 i hi)⟩
/-- a region in a round, by the plain law of any order -/
theorem region_round {id : Nat} {a : Act} {w : World} (hm : P.follows .mixedOrders = true) (hnd : ops.all noDefer = true)
    (h : wpAny P .any ops (OnlyNormal fun a w => Q .normal a w) ops.size (Array.replicate ops.size false) a w.drew) : (Code.region id ops true).wpIn (Fence.wide.inRound l) n P Q a w :=
  wpIn_region_any hm (any_round hnd (fun _ _ h => h) _ _ _ _ h)
/-- the same, by the law with a condition on the world -/
theorem region_round_held {S : World → Prop} {id : Nat} {a : Act} {w : World} (hm : P.follows .mixedOrders = true) (hnd : ops.all noDefer = true) (hS : S w.drew)
    (h : S w.drew → wpAnyH P .any ops (OnlyNormal fun a w => Q .normal a w) S ops.size (Array.replicate ops.size false) a w.drew) : (Code.region id ops true).wpIn (Fence.wide.inRound l) n P Q a w :=
  region_round hm hnd (wpAny_of_held _ _ _ _ (h hS))
end
end Go.Proofs.Ytbekihiiildgmaa
namespace Go.Proofs.Ytbekihiiildgmaa
set_option linter.unusedVariables false
set_option linter.unusedSimpArgs false
open Go.RowKit Go.Shelf
attribute [local go_sem] Oper.semAt_some
set_option maxHeartbeats 400000
abbrev Sub (n : Nat) := { x : PgAt // x.1 < n }
theorem eachPageS_stops (F : Fence) (n : Nat) (hF : F.fn 141) (hro : F.round = none) (hn : 1 ≤ n) (Bs n₀ g o c : Nat) (f : List Bk) (hs : List (Option Addr × Nat)) (w : World) (hB : Bs < w.heap.size) (hn₀ : n₀ ≤ w.heap.size)
    (hBs : w.cell? ⟨Bs, 0, none⟩ = some (.slice (some ⟨g, o, none⟩) f.length c)) (hl : f.length < 1000000000000) (hp : ∀ b ∈ f, b.pages.length < 1000000000000)
    (hBk : Bks w (some ⟨g, o, none⟩) f hs) (hlow : ∀ b, fblk (some ⟨g, o, none⟩) hs b → b < n₀) :
    SeqStopsK F n Try.prog 141 #[.pointer (some ⟨Bs, 0, none⟩)] (fun x : Sub f.length => encP x.1) (Below n₀) (fun ys => ys.map Subtype.val = allFrom 0 f) (fun pre => pre.map Subtype.val <+: allFrom 0 f) (allFrom 0 f).length w := fun l J Jx W hW hJ _ hY h0 => by
  refine (eachPage1_in F n hF hro hn l Bs n₀ g o c f hs (fun pre V => ∃ pre' : List (Sub f.length), pre'.map Subtype.val = pre ∧ J pre' V) (fun pre V => ∃ pre' : List (Sub f.length), pre'.map Subtype.val = pre ∧ Jx pre' V) W (Nat.le_trans hn₀ hW.size)
    (fun s X Y row hs hg hr => by obtain ⟨p, e, h⟩ := hs; exact ⟨p, e, hJ p X Y row h hg hr⟩) (fun pre x W1 h1 h2 h3 => ?_) ((hW.cell (p := ⟨Bs, 0, none⟩) hB).trans hBs) hl hp (hBk.keep fun q hq hl => hW.block q (by omega)) hlow ⟨[], rfl, h0⟩).mono ?_
  · obtain ⟨pre', rfl, hj⟩ := h1
    refine (hY pre' ⟨x, h3.1⟩ W1 hj (by simpa using h2)).mono ?_
    rintro e V (⟨rfl, hj2, hk⟩ | ⟨rfl, hj2⟩)
    · exact .inl ⟨rfl, ⟨_, by simp, hj2⟩, hk⟩
    · exact .inr ⟨rfl, _, by simp, hj2⟩
  · rintro e V ⟨he, ⟨ys, rfl, pre', h1, h2⟩ | ⟨pre, h0, pre', rfl, h2⟩⟩
    · exact ⟨he, .inl ⟨pre', h1, h2⟩⟩
    · exact ⟨he, .inr ⟨pre', h0, h2⟩⟩
abbrev Span := Int × Int
def Spn (s : Span) : List Value := [.int .i64 s.1, .int .i64 s.2]
def spv (ss : List Span) : List Value := ss.flatMap Spn
def lowOf (s : Span) (q : Int) : Int := if s.1 = 0 ∨ q < s.1 then q else s.1
def spStep (ss : List Span) (x : PgAt) : List Span := if x.2.2.state = 1 then ss.set x.1 (lowOf (ss.getD x.1 (0, 0)) x.2.2.rc.seq, max (ss.getD x.1 (0, 0)).2 x.2.2.rc.seq) else ss
def spOf (pre : List PgAt) : List Span := pre.foldl spStep (List.replicate 4 (0, 0))
theorem spOf_snoc (pre : List PgAt) (x : PgAt) : spOf (pre ++ [x]) = spStep (spOf pre) x := by unfold spOf; rw [List.foldl_append]; rfl
theorem spStep_len (ss : List Span) (x : PgAt) : (spStep ss x).length = ss.length := by unfold spStep; split <;> simp
theorem spOf_len (pre : List PgAt) : (spOf pre).length = 4 := by
  have : ∀ (pre : List PgAt) (ss : List Span), (pre.foldl spStep ss).length = ss.length := by
    intro pre
    induction pre with
    | nil => intro ss; rfl
    | cons x pre ih => intro ss; rw [List.foldl_cons, ih, spStep_len]
  rw [spOf, this]; rfl
theorem row_own (A : Option Addr) (vs : List Value) (n₀ : Nat) : OwnFrom n₀ (fun (_ : Unit) W => Row W A vs) := fun _ X Y row hs hg hr hn => by
  obtain ⟨b, o, rfl, hc⟩ := hs hn
  exact ⟨b, o, rfl, fun j u hj => ⟨cell_kept (hc j u hj).1 hg (fun r e => (hr r e).2), (frozen_kept (hc j u hj).1 hg (fun r e => (hr r e).2)).trans (hc j u hj).2⟩⟩
theorem Row.span {w : World} {b k : Nat} {ss : List Span} {s : Span} (h : Row w (some ⟨b, 0, none⟩) (spv ss)) (hk : ss[k]? = some s) :
    w.cell? ⟨b, k * 2, none⟩ = some (.int .i64 s.1) ∧ w.cell? ⟨b, k * 2 + 1, none⟩ = some (.int .i64 s.2) ∧ w.frozen? ⟨b, k * 2, none⟩ = false ∧ w.frozen? ⟨b, k * 2 + 1, none⟩ = false := by
  have hne : spv ss ≠ [] := by
    intro e
    cases ss with
    | nil => simp at hk
    | cons a ss => simp [spv, Spn] at e
  obtain ⟨b', o', he, hc⟩ := h hne
  cases he
  have hg : ∀ j u, (Spn s)[j]? = some u → j < 2 → w.cell? ⟨b, 0 + (k * 2 + j), none⟩ = some u ∧ w.frozen? ⟨b, 0 + (k * 2 + j), none⟩ = false := fun j u hj hl => hc (k * 2 + j) u (by rw [spv, flat_get _ 2 (fun _ => rfl) ss k j s hk hl]; exact hj)
  have h0 := hg 0 _ rfl (by omega)
  have h1 := hg 1 _ rfl (by omega)
  rw [Nat.zero_add] at h0 h1
  exact ⟨h0.1, h1.1, h0.2, h1.2⟩
theorem spv_set : ∀ (ss : List Span) (k : Nat) (s : Span), k < ss.length → spv (ss.set k s) = setL (spv ss) (k * 2) (Spn s)
  | [], k, s, h => by simp at h
  | q :: ss, 0, s, _ => by simp [spv, Spn, setL]
  | q :: ss, k + 1, s, h => by
    have ih := spv_set ss k s (by simpa using h)
    rw [List.set_cons_succ]
    show Spn q ++ spv (ss.set k s) = setL (Spn q ++ spv ss) _ _
    rw [ih, show (k + 1) * 2 = (Spn q).length + k * 2 by simp [Spn]; omega, setL_right]
theorem spv_len (ss : List Span) : (spv ss).length = ss.length * 2 := flat_len _ 2 (fun _ => rfl) ss
theorem make_spans (w : World) : (Instr.makeSlice 141 (.int .i64 4) (.int .i64 4)).run Try.prog w = .ok (.slice (some ⟨w.heap.size, 0, none⟩) 4 4) (w.alloc (.cells #[.int .i64 0, .int .i64 0, .int .i64 0, .int .i64 0, .int .i64 0, .int .i64 0, .int .i64 0, .int .i64 0] 144)) := by kernel_rfl
set_option maxRecDepth 100000 in
set_option maxHeartbeats 4000000 in
theorem impl_spansOf (f : List Bk) (hs : List (Option Addr × Nat)) (g o c : Nat) (w : World) (hl : f.length = 4) (hp : ∀ b ∈ f, b.pages.length = 4) (hBk : Bks w (some ⟨g, o, none⟩) f hs) (hlow : ∀ b, fblk (some ⟨g, o, none⟩) hs b → b < w.heap.size) :
    Calls Try.prog 117 #[.slice (some ⟨g, o, none⟩) 4 c] w fun e w' => ∃ b, e = .returned (.slice (some ⟨b, 0, none⟩) 4 4) ∧ w.heap.size ≤ b ∧ Row w' (some ⟨b, 0, none⟩) (spv (spOf (allFrom 0 f))) ∧ Below w.heap.size w w' := by
  refine (callsIn_wide (n := 6)).1 ?_
  refine callsIn_of_wp_marks Try.func117 rfl trivial ?_ rfl
  simp only [Try.ntmps117, List.size_toArray, List.length_cons, List.length_nil, Nat.reduceAdd, Nat.reduceSub, Array.replicate_succ, Array.replicate_zero, List.push_toArray, List.append_toArray, List.nil_append, List.cons_append]
  have hmk := make_spans
  have HL := Lib.hid hl
  have HP := Lib.hid hp
  clear hl hp
  gi_wp2_with (first | (refine ⟨trivial, ?_⟩; gi_at_call 94; refine (eachPage_in Fence.wide _ trivial rfl _ _ _ _).mono ?_; rintro e w2 ⟨rfl, rfl⟩))
  have hsz : ((((w.alloc (.cells #[.int .i64 0, .int .i64 0, .int .i64 0, .int .i64 0, .int .i64 0, .int .i64 0, .int .i64 0, .int .i64 0] 144)).alloc (.cells #[.slice (some ⟨w.heap.size, 0, none⟩) 4 4] 141)).alloc (.cells #[.slice (some ⟨g, o, none⟩) 4 c] 23))).heap.size = w.heap.size + 3 := by simp
  have bV := (Boxed.new (w.alloc (.cells #[.int .i64 0, .int .i64 0, .int .i64 0, .int .i64 0, .int .i64 0, .int .i64 0, .int .i64 0, .int .i64 0] 144)) 141 (.slice (some ⟨w.heap.size, 0, none⟩) 4 4)).alloc (.cells #[.slice (some ⟨g, o, none⟩) 4 c] 23)
  have bA := Boxed.new ((w.alloc (.cells #[.int .i64 0, .int .i64 0, .int .i64 0, .int .i64 0, .int .i64 0, .int .i64 0, .int .i64 0, .int .i64 0] 144)).alloc (.cells #[.slice (some ⟨w.heap.size, 0, none⟩) 4 4] 141)) 23 (.slice (some ⟨g, o, none⟩) 4 c)
  simp only [World.size_alloc] at bV bA
  have hR0 : Row _ _ (spv (spOf [])) := ((Row.new w #[.int .i64 0, .int .i64 0, .int .i64 0, .int .i64 0, .int .i64 0, .int .i64 0, .int .i64 0, .int .i64 0] 144).alloc (.cells #[.slice (some ⟨w.heap.size, 0, none⟩) 4 4] 141)).alloc (.cells #[.slice (some ⟨g, o, none⟩) 4 c] 23)
  have hBk0 := ((hBk.alloc (.cells #[.int .i64 0, .int .i64 0, .int .i64 0, .int .i64 0, .int .i64 0, .int .i64 0, .int .i64 0, .int .i64 0] 144)).alloc (.cells #[.slice (some ⟨w.heap.size, 0, none⟩) 4 4] 141)).alloc (.cells #[.slice (some ⟨g, o, none⟩) 4 c] 23)
  have hB0 : Below w.heap.size w (((w.alloc (.cells #[.int .i64 0, .int .i64 0, .int .i64 0, .int .i64 0, .int .i64 0, .int .i64 0, .int .i64 0, .int .i64 0] 144)).alloc (.cells #[.slice (some ⟨w.heap.size, 0, none⟩) 4 4] 141)).alloc (.cells #[.slice (some ⟨g, o, none⟩) 4 c] 23)) := (((Below.refl _ w).alloc (Nat.le_refl _) _).alloc (by simp) _).alloc (by simp; omega) _
  obtain ⟨W0, hW0⟩ : ∃ W0, ((w.alloc (.cells #[.int .i64 0, .int .i64 0, .int .i64 0, .int .i64 0, .int .i64 0, .int .i64 0, .int .i64 0, .int .i64 0] 144)).alloc (.cells #[.slice (some ⟨w.heap.size, 0, none⟩) 4 4] 141)).alloc (.cells #[.slice (some ⟨g, o, none⟩) 4 c] 23) = W0 := ⟨_, rfl⟩
  rw [hW0] at bV bA hR0 hB0 hsz hBk0 ⊢
  clear hW0 hmk
  have hcA : W0.cell? ⟨w.heap.size + 1 + 1, 0, none⟩ = some (.slice (some ⟨g, o, none⟩) f.length c) := by rw [HL.out]; exact bA.cell
  refine wpIn_rangeFunc_ownH rfl (by omega) (gf := 141) (lb := #[.pointer (some ⟨w.heap.size + 1 + 1, 0, none⟩)]) rfl trivial (enters_of Try.func141 (by kernel_rfl) rfl)
    (eachPageS_stops Fence.wide _ trivial rfl (by omega) (w.heap.size + 1 + 1) w.heap.size g o c f hs W0 (by omega) (by omega) hcA (by rw [HL.out]; omega) (fun b hb => by rw [HP.out b hb]; omega) hBk0 hlow) belowK_t (belowK_b (by omega)) (Below.refl _ _) (fun _ => rfl)
    (fun pre W => (Boxed W (w.heap.size + 1) 141 (.slice (some ⟨w.heap.size, 0, none⟩) 4 4) ∧ Row W (some ⟨w.heap.size, 0, none⟩) (spv (spOf (pre.map Subtype.val)))) ∧ Below w.heap.size w W)
    (fun _ _ _ => False)
    (OwnFrom.and (OwnFrom.and (Own.from (boxed_own _ _ (fun _ => _)) _) (fun pre X Y row h hg hr => row_own _ _ _ () X Y row h hg hr)) (ownFrom_below (Nat.le_refl _) (by omega)))
    (fun _ _ _ _ _ hs _ _ => hs)
    ⟨⟨bV, hR0⟩, hB0⟩
    (fun x a' W => ∃ B4 B5, w.heap.size + 1 < B4 ∧ w.heap.size + 1 < B5 ∧ Laid W B4 117 #[.int .i64 (x.1.1 : Int), .int .i64 (x.1.2.1 : Int)] ∧ Laid W B5 119 (pgv x.1.2.2) ∧ a' = { tmps := #[.slice (some ⟨g, o, none⟩) 4 c, undef, .slice none 0 0, .pointer (some ⟨w.heap.size + 1, 0, none⟩), .pointer (some ⟨B4, 0, none⟩), .pointer (some ⟨B5, 0, none⟩), undef, .slice (some ⟨g, o, none⟩) 4 c, .int .i64 4, .slice (some ⟨w.heap.size, 0, none⟩) 4 4, .slice (some ⟨g, o, none⟩) 4 c, .func (.func 141) #[] #[.pointer (some ⟨w.heap.size + 1 + 1, 0, none⟩)], .agg #[.int .i64 (x.1.1 : Int), .int .i64 (x.1.2.1 : Int)], .agg (pgv x.1.2.2), undef, undef, undef, undef, undef, undef, undef, undef, undef, undef, undef, undef, undef, undef, undef, undef, undef, undef, undef, undef, undef, undef, undef, undef, undef, undef, undef, undef, undef, undef, undef, undef, undef, undef, undef, undef, undef, undef, undef, undef], defers := [] })
    (fun x a' _ X Y row hs hg hr => by obtain ⟨B4, B5, h1, h2, h3, h4, h5⟩ := hs; exact ⟨B4, B5, h1, h2, laid_own B4 _ _ _ () X Y row h3 hg hr, laid_own B5 _ _ _ () X Y row h4 hg hr, h5⟩)
    ?assign ?body ?done ?stop
  case assign =>
    rintro l pre x W K ⟨⟨bV1, hR1⟩, hB1⟩ hK
    dsimp only [encP]
    gi_wp2
    have hlt := bV1.lt
    exact hK _ _ (((KeepsOthers.alloc _ _).trans (KeepsOthers.alloc _ _)).from _) (((Below.refl _ W).alloc hB1.size _).alloc (by simp; omega) _) ⟨⟨(bV1.alloc _).alloc _, (hR1.alloc _).alloc _⟩, (hB1.alloc hB1.size _).alloc (by simp; omega) _⟩ ⟨W.heap.size, W.heap.size + 1, hlt, by omega, (Below.heap_alloc _ _ _ (by simp)).trans (World.alloc_heap_new W _), by have := World.alloc_heap_new (W.alloc (.cells #[.int .i64 (x.1.1 : Int), .int .i64 (x.1.2.1 : Int)] 117)) (.cells (pgv x.1.2.2) 119); rwa [World.size_alloc] at this, rfl⟩
  case body =>
    rintro l pre x a' W hl ⟨r, hr⟩ ⟨⟨bV1, hR1⟩, hB1⟩ ⟨B4, B5, h4, h5, L4, L5, rfl⟩ hlt
    have hx4 : x.1.1 < 4 := Nat.lt_of_lt_of_eq x.2 HL.out
    have hlen := spOf_len (pre.map Subtype.val)
    have hst : Hid (spOf ((pre ++ [x]).map Subtype.val) = spStep (spOf (pre.map Subtype.val)) x.1) := by rw [Hid, List.map_append]; exact spOf_snoc _ _
    generalize spOf (pre.map Subtype.val) = ss at *
    obtain ⟨sp, hsp⟩ := get_some (l := ss) (k := x.1.1) (by omega)
    have hgd : ss.getD x.1.1 (0, 0) = sp := by rw [List.getD_eq_getElem?_getD, hsp]; rfl
    obtain ⟨l0, l1, l2, l3⟩ := hR1.span hsp
    have cV := bV1.cell
    have x0 : W.cell? ⟨B5, 0, none⟩ = some (.int .i64 x.1.2.2.state) := L5.cell 0 rfl
    have x2 : W.cell? ⟨B5, 2, none⟩ = some (.int .i64 x.1.2.2.rc.seq) := L5.cell 2 rfl
    have s0 : W.cell? ⟨B4, 0, none⟩ = some (.int .i64 (x.1.1 : Int)) := L4.cell 0 rfl
    have hx4' : (x.1.1 : Int) < 4 := by omega
    by_cases h1 : x.1.2.2.state = 1
    · have hst2 : Hid (spOf ((pre ++ [x]).map Subtype.val) = ss.set x.1.1 (lowOf sp x.1.2.2.rc.seq, max sp.2 x.1.2.2.rc.seq)) := by rw [Hid, hst.out]; unfold spStep; rw [if_pos h1, hgd]
      have hrow : ∀ Wf : World, Wrote W Wf w.heap.size (x.1.1 * 2) (Spn (lowOf sp x.1.2.2.rc.seq, max sp.2 x.1.2.2.rc.seq)) → Row Wf (some ⟨w.heap.size, 0, none⟩) (spv (spOf ((pre ++ [x]).map Subtype.val))) := fun Wf hW => by
        rw [hst2.out, spv_set _ _ _ (by omega)]
        exact Wrote.row (o := 0) (by rw [Nat.zero_add]; exact hW) hR1 (by rw [spv_len]; simp [Spn]; omega)
      have HROW := Lib.hid hrow
      rw [h1] at x0
      clear hrow hst hst2 hgd hsp h1
      by_cases hz : sp.1 = 0
      · have hlo : Hid (lowOf sp x.1.2.2.rc.seq = x.1.2.2.rc.seq) := by unfold Hid lowOf; rw [if_pos (.inl hz)]
        rw [hz] at l0
        clear hz
        gi_wp2
        refine region_round_held (S := fun w' => w'.cell? ⟨w.heap.size, x.1.1 * 2, none⟩ = some (.int .i64 0) ∧ w'.cell? ⟨B5, 2, none⟩ = some (.int .i64 x.1.2.2.rc.seq)) (by kernel_rfl) (by kernel_rfl) ⟨l0, x2⟩ (fun hHeld => ?_)
        refine wpAnyH_take (i := 0) (v := ?va10) rfl (by kernel_rfl) (by kernel_rfl) (by kernel_rfl) (fun _ _ _ h => h) (Or.inl ⟨by rfl, ?ya10⟩) hHeld ?ra10
        case ya10 => (intro w' hS; (try dsimp only at hS); obtain ⟨s0, s1⟩ := hS; (try go_simp); (try with_reducible rfl))
        try simp only [Act.put, List.getElem_toArray, List.getElem_cons_zero, List.getElem_cons_succ, List.setIfInBounds_toArray, List.set_cons_zero, List.set_cons_succ]
        refine wpAnyH_take (i := 1) (v := ?va11) rfl (by kernel_rfl) (by kernel_rfl) (by kernel_rfl) (fun _ _ _ h => h) (Or.inl ⟨by rfl, ?ya11⟩) hHeld ?ra11
        case ya11 => (intro w' hS; (try dsimp only at hS); obtain ⟨s0, s1⟩ := hS; (try go_simp); (try with_reducible rfl))
        try simp only [Act.put, List.getElem_toArray, List.getElem_cons_zero, List.getElem_cons_succ, List.setIfInBounds_toArray, List.set_cons_zero, List.set_cons_succ]
        refine wpAnyH_take (i := 2) (v := ?va12) rfl (by kernel_rfl) (by kernel_rfl) (by kernel_rfl) (fun _ _ _ h => h) (Or.inl ⟨by rfl, ?ya12⟩) hHeld ?ra12
        case ya12 => (intro w' hS; (try dsimp only at hS); obtain ⟨s0, s1⟩ := hS; (try go_simp); (try with_reducible rfl))
        try simp only [Act.put, List.getElem_toArray, List.getElem_cons_zero, List.getElem_cons_succ, List.setIfInBounds_toArray, List.set_cons_zero, List.set_cons_succ]
        refine wpAnyH_take (i := 3) (v := ?va13) rfl (by kernel_rfl) (by kernel_rfl) (by kernel_rfl) (fun _ _ _ h => h) (Or.inl ⟨by rfl, ?ya13⟩) hHeld ?ra13
        case ya13 => (intro w' hS; (try dsimp only at hS); obtain ⟨s0, s1⟩ := hS; (try go_simp); (try with_reducible rfl))
        try simp only [Act.put, List.getElem_toArray, List.getElem_cons_zero, List.getElem_cons_succ, List.setIfInBounds_toArray, List.set_cons_zero, List.set_cons_succ]
        refine wpAnyH_take (i := 4) (v := ?va14) rfl (by kernel_rfl) (by kernel_rfl) (by kernel_rfl) (fun _ _ _ h => h) (Or.inl ⟨by rfl, ?ya14⟩) hHeld ?ra14
        case ya14 => (intro w' hS; (try dsimp only at hS); obtain ⟨s0, s1⟩ := hS; (try go_simp); (try with_reducible rfl))
        try simp only [Act.put, List.getElem_toArray, List.getElem_cons_zero, List.getElem_cons_succ, List.setIfInBounds_toArray, List.set_cons_zero, List.set_cons_succ]
        refine wpAnyH_take (i := 5) (v := ?va15) rfl (by kernel_rfl) (by kernel_rfl) (by kernel_rfl) (fun _ _ _ h => h) (Or.inl ⟨by rfl, ?ya15⟩) hHeld ?ra15
        case ya15 => (intro w' hS; (try dsimp only at hS); obtain ⟨s0, s1⟩ := hS; (try go_simp); (try with_reducible rfl))
        try simp only [Act.put, List.getElem_toArray, List.getElem_cons_zero, List.getElem_cons_succ, List.setIfInBounds_toArray, List.set_cons_zero, List.set_cons_succ]
        refine wpAnyH_take (i := 6) (v := undef) rfl (by kernel_rfl) (by kernel_rfl) (by kernel_rfl) (fun _ _ _ h => h) (Or.inr ⟨by rfl, rfl⟩) hHeld ?_
        try simp only [Act.put, List.getElem_toArray, List.getElem_cons_zero, List.getElem_cons_succ, List.setIfInBounds_toArray, List.set_cons_zero, List.set_cons_succ]
        refine wpAnyH_take (i := 7) (v := undef) rfl (by kernel_rfl) (by kernel_rfl) (by kernel_rfl) (fun _ _ _ h => h) (Or.inr ⟨by rfl, rfl⟩) hHeld ?_
        try simp only [Act.put, List.getElem_toArray, List.getElem_cons_zero, List.getElem_cons_succ, List.setIfInBounds_toArray, List.set_cons_zero, List.set_cons_succ]
        refine wpAnyH_take (i := 8) (v := undef) rfl (by kernel_rfl) (by kernel_rfl) (by kernel_rfl) (fun _ _ _ h => h) (Or.inr ⟨by rfl, rfl⟩) hHeld ?_
        try simp only [Act.put, List.getElem_toArray, List.getElem_cons_zero, List.getElem_cons_succ, List.setIfInBounds_toArray, List.set_cons_zero, List.set_cons_succ]
        refine wpAnyH_take (i := 9) (v := undef) rfl (by kernel_rfl) (by kernel_rfl) (by kernel_rfl) (fun _ _ _ h => h) (Or.inr ⟨by rfl, rfl⟩) hHeld ?_
        try simp only [Act.put, List.getElem_toArray, List.getElem_cons_zero, List.getElem_cons_succ, List.setIfInBounds_toArray, List.set_cons_zero, List.set_cons_succ]
        refine wpAnyH_take (i := 10) (v := undef) rfl (by kernel_rfl) (by kernel_rfl) (by kernel_rfl) (fun _ _ _ h => h) (Or.inr ⟨by rfl, rfl⟩) hHeld ?_
        try simp only [Act.put, List.getElem_toArray, List.getElem_cons_zero, List.getElem_cons_succ, List.setIfInBounds_toArray, List.set_cons_zero, List.set_cons_succ]
        refine wpAnyH_take (i := 11) (v := undef) rfl (by kernel_rfl) (by kernel_rfl) (by kernel_rfl) (fun _ _ _ h => h) (Or.inr ⟨by rfl, rfl⟩) hHeld ?_
        try simp only [Act.put, List.getElem_toArray, List.getElem_cons_zero, List.getElem_cons_succ, List.setIfInBounds_toArray, List.set_cons_zero, List.set_cons_succ]
        refine wpAnyH_take (i := 12) (v := undef) rfl (by kernel_rfl) (by kernel_rfl) (by kernel_rfl) (fun _ _ _ h => h) (Or.inr ⟨by rfl, rfl⟩) hHeld ?_
        try simp only [Act.put, List.getElem_toArray, List.getElem_cons_zero, List.getElem_cons_succ, List.setIfInBounds_toArray, List.set_cons_zero, List.set_cons_succ]
        refine wpAnyH_take (i := 13) (v := undef) rfl (by kernel_rfl) (by kernel_rfl) (by kernel_rfl) (fun _ _ _ h => h) (Or.inr ⟨by rfl, rfl⟩) hHeld ?_
        try simp only [Act.put, List.getElem_toArray, List.getElem_cons_zero, List.getElem_cons_succ, List.setIfInBounds_toArray, List.set_cons_zero, List.set_cons_succ]
        refine wpAnyH_take (i := 14) (v := ?va114) rfl (by kernel_rfl) (by kernel_rfl) (by kernel_rfl) (fun _ _ _ h => h) (Or.inl ⟨by rfl, ?ya114⟩) hHeld ?ra114
        case ya114 => (intro w' hS; (try dsimp only at hS); obtain ⟨s0, s1⟩ := hS; (try go_simp); (try with_reducible rfl))
        try simp only [Act.put, List.getElem_toArray, List.getElem_cons_zero, List.getElem_cons_succ, List.setIfInBounds_toArray, List.set_cons_zero, List.set_cons_succ]
        refine wpAnyH_done (by kernel_rfl) ?_ _
        simp only [OnlyNormal]
        gi_wp2
        by_cases hmx : sp.2 < x.1.2.2.rc.seq
        · have hmv : Hid (max sp.2 x.1.2.2.rc.seq = x.1.2.2.rc.seq) := by unfold Hid; omega
          refine region_round (by kernel_rfl) (by kernel_rfl) ?_
          refine wpAny_take (i := 0) (v := ?vb20) rfl (by kernel_rfl) (by kernel_rfl) (by kernel_rfl) (fun _ _ _ h => h) (Or.inl ⟨by rfl, ?yb20⟩) ?rb20
          case yb20 => (intro w'; (try go_simp); (try with_reducible rfl))
          try simp only [Act.put, List.getElem_toArray, List.getElem_cons_zero, List.getElem_cons_succ, List.setIfInBounds_toArray, List.set_cons_zero, List.set_cons_succ]
          refine wpAny_take (i := 1) (v := ?vb21) rfl (by kernel_rfl) (by kernel_rfl) (by kernel_rfl) (fun _ _ _ h => h) (Or.inl ⟨by rfl, ?yb21⟩) ?rb21
          case yb21 => (intro w'; (try go_simp); (try with_reducible rfl))
          try simp only [Act.put, List.getElem_toArray, List.getElem_cons_zero, List.getElem_cons_succ, List.setIfInBounds_toArray, List.set_cons_zero, List.set_cons_succ]
          refine wpAny_take (i := 2) (v := ?vb22) rfl (by kernel_rfl) (by kernel_rfl) (by kernel_rfl) (fun _ _ _ h => h) (Or.inl ⟨by rfl, ?yb22⟩) ?rb22
          case yb22 => (intro w'; (try go_simp); (try with_reducible rfl))
          try simp only [Act.put, List.getElem_toArray, List.getElem_cons_zero, List.getElem_cons_succ, List.setIfInBounds_toArray, List.set_cons_zero, List.set_cons_succ]
          refine wpAny_take (i := 3) (v := ?vb23) rfl (by kernel_rfl) (by kernel_rfl) (by kernel_rfl) (fun _ _ _ h => h) (Or.inl ⟨by rfl, ?yb23⟩) ?rb23
          case yb23 => (intro w'; (try go_simp); (try with_reducible rfl))
          try simp only [Act.put, List.getElem_toArray, List.getElem_cons_zero, List.getElem_cons_succ, List.setIfInBounds_toArray, List.set_cons_zero, List.set_cons_succ]
          refine wpAny_take (i := 5) (v := ?vb25) rfl (by kernel_rfl) (by kernel_rfl) (by kernel_rfl) (fun _ _ _ h => h) (Or.inl ⟨by rfl, ?yb25⟩) ?rb25
          case yb25 => (intro w'; (try go_simp); (try with_reducible rfl))
          try simp only [Act.put, List.getElem_toArray, List.getElem_cons_zero, List.getElem_cons_succ, List.setIfInBounds_toArray, List.set_cons_zero, List.set_cons_succ]
          refine wpAny_take (i := 6) (v := ?vb26) rfl (by kernel_rfl) (by kernel_rfl) (by kernel_rfl) (fun _ _ _ h => h) (Or.inl ⟨by rfl, ?yb26⟩) ?rb26
          case yb26 => (intro w'; (try go_simp); (try with_reducible rfl))
          try simp only [Act.put, List.getElem_toArray, List.getElem_cons_zero, List.getElem_cons_succ, List.setIfInBounds_toArray, List.set_cons_zero, List.set_cons_succ]
          refine wpAny_ready (rs := [4, 7]) (by kernel_rfl) (by simp) ?_
          refine AllReady.cons rfl (fun K hK => ?_) (AllReady.cons rfl (fun K hK => ?_) AllReady.nil)
          · go_simp
            refine hK _ _ ?_
            clear hK K
            try simp only [Act.put, List.getElem_toArray, List.getElem_cons_zero, List.getElem_cons_succ, List.setIfInBounds_toArray, List.set_cons_zero, List.set_cons_succ]
            refine wpAny_ready (rs := [7]) (by kernel_rfl) (by simp) ?_
            refine AllReady.cons rfl (fun K hK => ?_) AllReady.nil
            go_simp
            refine hK _ _ ?_
            clear hK K
            try simp only [Act.put, List.getElem_toArray, List.getElem_cons_zero, List.getElem_cons_succ, List.setIfInBounds_toArray, List.set_cons_zero, List.set_cons_succ]
            refine wpAny_take (i := 8) (v := ?vb28x4) rfl (by kernel_rfl) (by kernel_rfl) (by kernel_rfl) (fun _ _ _ h => h) (Or.inl ⟨by rfl, ?yb28x4⟩) ?rb28x4
            case yb28x4 => (intro w'; (try go_simp); (try with_reducible rfl))
            try simp only [Act.put, List.getElem_toArray, List.getElem_cons_zero, List.getElem_cons_succ, List.setIfInBounds_toArray, List.set_cons_zero, List.set_cons_succ]
            refine wpAny_take (i := 9) (v := ?vb29x4) rfl (by kernel_rfl) (by kernel_rfl) (by kernel_rfl) (fun _ _ _ h => h) (Or.inl ⟨by rfl, ?yb29x4⟩) ?rb29x4
            case yb29x4 => (intro w'; (try go_simp); (try with_reducible rfl))
            try simp only [Act.put, List.getElem_toArray, List.getElem_cons_zero, List.getElem_cons_succ, List.setIfInBounds_toArray, List.set_cons_zero, List.set_cons_succ]
            refine wpAny_take (i := 10) (v := ?vb210x4) rfl (by kernel_rfl) (by kernel_rfl) (by kernel_rfl) (fun _ _ _ h => h) (Or.inl ⟨by rfl, ?yb210x4⟩) ?rb210x4
            case yb210x4 => (intro w'; (try go_simp); (try with_reducible rfl))
            try simp only [Act.put, List.getElem_toArray, List.getElem_cons_zero, List.getElem_cons_succ, List.setIfInBounds_toArray, List.set_cons_zero, List.set_cons_succ]
            refine wpAny_ready (rs := [11]) (by kernel_rfl) (by simp) ?_
            refine AllReady.cons rfl (fun K hK => ?_) AllReady.nil
            go_simp
            refine hK _ _ ?_
            clear hK K
            try simp only [Act.put, List.getElem_toArray, List.getElem_cons_zero, List.getElem_cons_succ, List.setIfInBounds_toArray, List.set_cons_zero, List.set_cons_succ]
            refine wpAny_done (by kernel_rfl) ?_ _
            simp only [OnlyNormal]
            have hW : Wrote W ((W.setCell ⟨w.heap.size, x.1.1 * 2, none⟩ (.int .i64 x.1.2.2.rc.seq)).setCell ⟨w.heap.size, x.1.1 * 2 + 1, none⟩ (.int .i64 x.1.2.2.rc.seq)) w.heap.size (x.1.1 * 2) (Spn (lowOf sp x.1.2.2.rc.seq, max sp.2 x.1.2.2.rc.seq)) := by
              rw [hlo.out, hmv.out]
              exact wrote_setRow w.heap.size [.int .i64 x.1.2.2.rc.seq, .int .i64 x.1.2.2.rc.seq] (x.1.1 * 2) W (fun j hj => by
                match j, hj with
                | 0, _ => exact ⟨_, l0⟩
                | 1, _ => exact ⟨_, l1⟩)
            have hBL : Below w.heap.size W ((W.setCell ⟨w.heap.size, x.1.1 * 2, none⟩ (.int .i64 x.1.2.2.rc.seq)).setCell ⟨w.heap.size, x.1.1 * 2 + 1, none⟩ (.int .i64 x.1.2.2.rc.seq)).drew.drew := ((((Below.refl w.heap.size W).setCell (p := ⟨w.heap.size, x.1.1 * 2, none⟩) (Nat.le_refl _) (.int .i64 x.1.2.2.rc.seq)).setCell (p := ⟨w.heap.size, x.1.1 * 2 + 1, none⟩) (Nat.le_refl _) (.int .i64 x.1.2.2.rc.seq)).drew).drew
            have hBX : Boxed ((W.setCell ⟨w.heap.size, x.1.1 * 2, none⟩ (.int .i64 x.1.2.2.rc.seq)).setCell ⟨w.heap.size, x.1.1 * 2 + 1, none⟩ (.int .i64 x.1.2.2.rc.seq)).drew.drew (w.heap.size + 1) 141 (.slice (some ⟨w.heap.size, 0, none⟩) 4 4) := (hW.block (w.heap.size + 1) (by omega)).trans bV1
            have hRW : Row ((W.setCell ⟨w.heap.size, x.1.1 * 2, none⟩ (.int .i64 x.1.2.2.rc.seq)).setCell ⟨w.heap.size, x.1.1 * 2 + 1, none⟩ (.int .i64 x.1.2.2.rc.seq)).drew.drew (some ⟨w.heap.size, 0, none⟩) (spv (spOf ((pre ++ [x]).map Subtype.val))) := (HROW.out _ hW).drew.drew
            clear hW HROW
            gi_wp2
            exact ⟨((((KeepsOthers.setCell _ _ _).trans (KeepsOthers.setCell _ _ _)).trans (KeepsOthers.drew _)).trans (KeepsOthers.drew _)).from _, hBL, ⟨hBX, hRW⟩, hB1.trans hBL⟩
          · go_simp
            refine hK _ _ ?_
            clear hK K
            try simp only [Act.put, List.getElem_toArray, List.getElem_cons_zero, List.getElem_cons_succ, List.setIfInBounds_toArray, List.set_cons_zero, List.set_cons_succ]
            refine wpAny_ready (rs := [4]) (by kernel_rfl) (by simp) ?_
            refine AllReady.cons rfl (fun K hK => ?_) AllReady.nil
            go_simp
            refine hK _ _ ?_
            clear hK K
            try simp only [Act.put, List.getElem_toArray, List.getElem_cons_zero, List.getElem_cons_succ, List.setIfInBounds_toArray, List.set_cons_zero, List.set_cons_succ]
            refine wpAny_take (i := 8) (v := ?vb28x7) rfl (by kernel_rfl) (by kernel_rfl) (by kernel_rfl) (fun _ _ _ h => h) (Or.inl ⟨by rfl, ?yb28x7⟩) ?rb28x7
            case yb28x7 => (intro w'; (try go_simp); (try with_reducible rfl))
            try simp only [Act.put, List.getElem_toArray, List.getElem_cons_zero, List.getElem_cons_succ, List.setIfInBounds_toArray, List.set_cons_zero, List.set_cons_succ]
            refine wpAny_take (i := 9) (v := ?vb29x7) rfl (by kernel_rfl) (by kernel_rfl) (by kernel_rfl) (fun _ _ _ h => h) (Or.inl ⟨by rfl, ?yb29x7⟩) ?rb29x7
            case yb29x7 => (intro w'; (try go_simp); (try with_reducible rfl))
            try simp only [Act.put, List.getElem_toArray, List.getElem_cons_zero, List.getElem_cons_succ, List.setIfInBounds_toArray, List.set_cons_zero, List.set_cons_succ]
            refine wpAny_take (i := 10) (v := ?vb210x7) rfl (by kernel_rfl) (by kernel_rfl) (by kernel_rfl) (fun _ _ _ h => h) (Or.inl ⟨by rfl, ?yb210x7⟩) ?rb210x7
            case yb210x7 => (intro w'; (try go_simp); (try with_reducible rfl))
            try simp only [Act.put, List.getElem_toArray, List.getElem_cons_zero, List.getElem_cons_succ, List.setIfInBounds_toArray, List.set_cons_zero, List.set_cons_succ]
            refine wpAny_ready (rs := [11]) (by kernel_rfl) (by simp) ?_
            refine AllReady.cons rfl (fun K hK => ?_) AllReady.nil
            go_simp
            refine hK _ _ ?_
            clear hK K
            try simp only [Act.put, List.getElem_toArray, List.getElem_cons_zero, List.getElem_cons_succ, List.setIfInBounds_toArray, List.set_cons_zero, List.set_cons_succ]
            refine wpAny_done (by kernel_rfl) ?_ _
            simp only [OnlyNormal]
            have hW : Wrote W ((W.setCell ⟨w.heap.size, x.1.1 * 2, none⟩ (.int .i64 x.1.2.2.rc.seq)).setCell ⟨w.heap.size, x.1.1 * 2 + 1, none⟩ (.int .i64 x.1.2.2.rc.seq)) w.heap.size (x.1.1 * 2) (Spn (lowOf sp x.1.2.2.rc.seq, max sp.2 x.1.2.2.rc.seq)) := by
              rw [hlo.out, hmv.out]
              exact wrote_setRow w.heap.size [.int .i64 x.1.2.2.rc.seq, .int .i64 x.1.2.2.rc.seq] (x.1.1 * 2) W (fun j hj => by
                match j, hj with
                | 0, _ => exact ⟨_, l0⟩
                | 1, _ => exact ⟨_, l1⟩)
            have hBL : Below w.heap.size W ((W.setCell ⟨w.heap.size, x.1.1 * 2, none⟩ (.int .i64 x.1.2.2.rc.seq)).setCell ⟨w.heap.size, x.1.1 * 2 + 1, none⟩ (.int .i64 x.1.2.2.rc.seq)).drew.drew := ((((Below.refl w.heap.size W).setCell (p := ⟨w.heap.size, x.1.1 * 2, none⟩) (Nat.le_refl _) (.int .i64 x.1.2.2.rc.seq)).setCell (p := ⟨w.heap.size, x.1.1 * 2 + 1, none⟩) (Nat.le_refl _) (.int .i64 x.1.2.2.rc.seq)).drew).drew
            have hBX : Boxed ((W.setCell ⟨w.heap.size, x.1.1 * 2, none⟩ (.int .i64 x.1.2.2.rc.seq)).setCell ⟨w.heap.size, x.1.1 * 2 + 1, none⟩ (.int .i64 x.1.2.2.rc.seq)).drew.drew (w.heap.size + 1) 141 (.slice (some ⟨w.heap.size, 0, none⟩) 4 4) := (hW.block (w.heap.size + 1) (by omega)).trans bV1
            have hRW : Row ((W.setCell ⟨w.heap.size, x.1.1 * 2, none⟩ (.int .i64 x.1.2.2.rc.seq)).setCell ⟨w.heap.size, x.1.1 * 2 + 1, none⟩ (.int .i64 x.1.2.2.rc.seq)).drew.drew (some ⟨w.heap.size, 0, none⟩) (spv (spOf ((pre ++ [x]).map Subtype.val))) := (HROW.out _ hW).drew.drew
            clear hW HROW
            gi_wp2
            exact ⟨((((KeepsOthers.setCell _ _ _).trans (KeepsOthers.setCell _ _ _)).trans (KeepsOthers.drew _)).trans (KeepsOthers.drew _)).from _, hBL, ⟨hBX, hRW⟩, hB1.trans hBL⟩
        · have hmv : Hid (max sp.2 x.1.2.2.rc.seq = sp.2) := by unfold Hid; omega
          refine region_round (by kernel_rfl) (by kernel_rfl) ?_
          refine wpAny_take (i := 0) (v := ?vb30) rfl (by kernel_rfl) (by kernel_rfl) (by kernel_rfl) (fun _ _ _ h => h) (Or.inl ⟨by rfl, ?yb30⟩) ?rb30
          case yb30 => (intro w'; (try go_simp); (try with_reducible rfl))
          try simp only [Act.put, List.getElem_toArray, List.getElem_cons_zero, List.getElem_cons_succ, List.setIfInBounds_toArray, List.set_cons_zero, List.set_cons_succ]
          refine wpAny_take (i := 1) (v := ?vb31) rfl (by kernel_rfl) (by kernel_rfl) (by kernel_rfl) (fun _ _ _ h => h) (Or.inl ⟨by rfl, ?yb31⟩) ?rb31
          case yb31 => (intro w'; (try go_simp); (try with_reducible rfl))
          try simp only [Act.put, List.getElem_toArray, List.getElem_cons_zero, List.getElem_cons_succ, List.setIfInBounds_toArray, List.set_cons_zero, List.set_cons_succ]
          refine wpAny_take (i := 2) (v := ?vb32) rfl (by kernel_rfl) (by kernel_rfl) (by kernel_rfl) (fun _ _ _ h => h) (Or.inl ⟨by rfl, ?yb32⟩) ?rb32
          case yb32 => (intro w'; (try go_simp); (try with_reducible rfl))
          try simp only [Act.put, List.getElem_toArray, List.getElem_cons_zero, List.getElem_cons_succ, List.setIfInBounds_toArray, List.set_cons_zero, List.set_cons_succ]
          refine wpAny_take (i := 3) (v := ?vb33) rfl (by kernel_rfl) (by kernel_rfl) (by kernel_rfl) (fun _ _ _ h => h) (Or.inl ⟨by rfl, ?yb33⟩) ?rb33
          case yb33 => (intro w'; (try go_simp); (try with_reducible rfl))
          try simp only [Act.put, List.getElem_toArray, List.getElem_cons_zero, List.getElem_cons_succ, List.setIfInBounds_toArray, List.set_cons_zero, List.set_cons_succ]
          refine wpAny_take (i := 5) (v := ?vb35) rfl (by kernel_rfl) (by kernel_rfl) (by kernel_rfl) (fun _ _ _ h => h) (Or.inl ⟨by rfl, ?yb35⟩) ?rb35
          case yb35 => (intro w'; (try go_simp); (try with_reducible rfl))
          try simp only [Act.put, List.getElem_toArray, List.getElem_cons_zero, List.getElem_cons_succ, List.setIfInBounds_toArray, List.set_cons_zero, List.set_cons_succ]
          refine wpAny_take (i := 6) (v := ?vb36) rfl (by kernel_rfl) (by kernel_rfl) (by kernel_rfl) (fun _ _ _ h => h) (Or.inl ⟨by rfl, ?yb36⟩) ?rb36
          case yb36 => (intro w'; (try go_simp); (try with_reducible rfl))
          try simp only [Act.put, List.getElem_toArray, List.getElem_cons_zero, List.getElem_cons_succ, List.setIfInBounds_toArray, List.set_cons_zero, List.set_cons_succ]
          refine wpAny_ready (rs := [4, 7]) (by kernel_rfl) (by simp) ?_
          refine AllReady.cons rfl (fun K hK => ?_) (AllReady.cons rfl (fun K hK => ?_) AllReady.nil)
          · go_simp
            refine hK _ _ ?_
            clear hK K
            try simp only [Act.put, List.getElem_toArray, List.getElem_cons_zero, List.getElem_cons_succ, List.setIfInBounds_toArray, List.set_cons_zero, List.set_cons_succ]
            refine wpAny_ready (rs := [7]) (by kernel_rfl) (by simp) ?_
            refine AllReady.cons rfl (fun K hK => ?_) AllReady.nil
            go_simp
            refine hK _ _ ?_
            clear hK K
            try simp only [Act.put, List.getElem_toArray, List.getElem_cons_zero, List.getElem_cons_succ, List.setIfInBounds_toArray, List.set_cons_zero, List.set_cons_succ]
            refine wpAny_take (i := 8) (v := ?vb38x4) rfl (by kernel_rfl) (by kernel_rfl) (by kernel_rfl) (fun _ _ _ h => h) (Or.inl ⟨by rfl, ?yb38x4⟩) ?rb38x4
            case yb38x4 => (intro w'; (try go_simp); (try with_reducible rfl))
            try simp only [Act.put, List.getElem_toArray, List.getElem_cons_zero, List.getElem_cons_succ, List.setIfInBounds_toArray, List.set_cons_zero, List.set_cons_succ]
            refine wpAny_take (i := 9) (v := ?vb39x4) rfl (by kernel_rfl) (by kernel_rfl) (by kernel_rfl) (fun _ _ _ h => h) (Or.inl ⟨by rfl, ?yb39x4⟩) ?rb39x4
            case yb39x4 => (intro w'; (try go_simp); (try with_reducible rfl))
            try simp only [Act.put, List.getElem_toArray, List.getElem_cons_zero, List.getElem_cons_succ, List.setIfInBounds_toArray, List.set_cons_zero, List.set_cons_succ]
            refine wpAny_take (i := 10) (v := ?vb310x4) rfl (by kernel_rfl) (by kernel_rfl) (by kernel_rfl) (fun _ _ _ h => h) (Or.inl ⟨by rfl, ?yb310x4⟩) ?rb310x4
            case yb310x4 => (intro w'; (try go_simp); (try with_reducible rfl))
            try simp only [Act.put, List.getElem_toArray, List.getElem_cons_zero, List.getElem_cons_succ, List.setIfInBounds_toArray, List.set_cons_zero, List.set_cons_succ]
            refine wpAny_ready (rs := [11]) (by kernel_rfl) (by simp) ?_
            refine AllReady.cons rfl (fun K hK => ?_) AllReady.nil
            go_simp
            refine hK _ _ ?_
            clear hK K
            try simp only [Act.put, List.getElem_toArray, List.getElem_cons_zero, List.getElem_cons_succ, List.setIfInBounds_toArray, List.set_cons_zero, List.set_cons_succ]
            refine wpAny_done (by kernel_rfl) ?_ _
            simp only [OnlyNormal]
            have hW : Wrote W ((W.setCell ⟨w.heap.size, x.1.1 * 2, none⟩ (.int .i64 x.1.2.2.rc.seq)).setCell ⟨w.heap.size, x.1.1 * 2 + 1, none⟩ (.int .i64 sp.2)) w.heap.size (x.1.1 * 2) (Spn (lowOf sp x.1.2.2.rc.seq, max sp.2 x.1.2.2.rc.seq)) := by
              rw [hlo.out, hmv.out]
              exact wrote_setRow w.heap.size [.int .i64 x.1.2.2.rc.seq, .int .i64 sp.2] (x.1.1 * 2) W (fun j hj => by
                match j, hj with
                | 0, _ => exact ⟨_, l0⟩
                | 1, _ => exact ⟨_, l1⟩)
            have hBL : Below w.heap.size W ((W.setCell ⟨w.heap.size, x.1.1 * 2, none⟩ (.int .i64 x.1.2.2.rc.seq)).setCell ⟨w.heap.size, x.1.1 * 2 + 1, none⟩ (.int .i64 sp.2)).drew.drew := ((((Below.refl w.heap.size W).setCell (p := ⟨w.heap.size, x.1.1 * 2, none⟩) (Nat.le_refl _) (.int .i64 x.1.2.2.rc.seq)).setCell (p := ⟨w.heap.size, x.1.1 * 2 + 1, none⟩) (Nat.le_refl _) (.int .i64 sp.2)).drew).drew
            have hBX : Boxed ((W.setCell ⟨w.heap.size, x.1.1 * 2, none⟩ (.int .i64 x.1.2.2.rc.seq)).setCell ⟨w.heap.size, x.1.1 * 2 + 1, none⟩ (.int .i64 sp.2)).drew.drew (w.heap.size + 1) 141 (.slice (some ⟨w.heap.size, 0, none⟩) 4 4) := (hW.block (w.heap.size + 1) (by omega)).trans bV1
            have hRW : Row ((W.setCell ⟨w.heap.size, x.1.1 * 2, none⟩ (.int .i64 x.1.2.2.rc.seq)).setCell ⟨w.heap.size, x.1.1 * 2 + 1, none⟩ (.int .i64 sp.2)).drew.drew (some ⟨w.heap.size, 0, none⟩) (spv (spOf ((pre ++ [x]).map Subtype.val))) := (HROW.out _ hW).drew.drew
            clear hW HROW
            gi_wp2
            exact ⟨((((KeepsOthers.setCell _ _ _).trans (KeepsOthers.setCell _ _ _)).trans (KeepsOthers.drew _)).trans (KeepsOthers.drew _)).from _, hBL, ⟨hBX, hRW⟩, hB1.trans hBL⟩
          · go_simp
            refine hK _ _ ?_
            clear hK K
            try simp only [Act.put, List.getElem_toArray, List.getElem_cons_zero, List.getElem_cons_succ, List.setIfInBounds_toArray, List.set_cons_zero, List.set_cons_succ]
            refine wpAny_ready (rs := [4]) (by kernel_rfl) (by simp) ?_
            refine AllReady.cons rfl (fun K hK => ?_) AllReady.nil
            go_simp
            refine hK _ _ ?_
            clear hK K
            try simp only [Act.put, List.getElem_toArray, List.getElem_cons_zero, List.getElem_cons_succ, List.setIfInBounds_toArray, List.set_cons_zero, List.set_cons_succ]
            refine wpAny_take (i := 8) (v := ?vb38x7) rfl (by kernel_rfl) (by kernel_rfl) (by kernel_rfl) (fun _ _ _ h => h) (Or.inl ⟨by rfl, ?yb38x7⟩) ?rb38x7
            case yb38x7 => (intro w'; (try go_simp); (try with_reducible rfl))
            try simp only [Act.put, List.getElem_toArray, List.getElem_cons_zero, List.getElem_cons_succ, List.setIfInBounds_toArray, List.set_cons_zero, List.set_cons_succ]
            refine wpAny_take (i := 9) (v := ?vb39x7) rfl (by kernel_rfl) (by kernel_rfl) (by kernel_rfl) (fun _ _ _ h => h) (Or.inl ⟨by rfl, ?yb39x7⟩) ?rb39x7
            case yb39x7 => (intro w'; (try go_simp); (try with_reducible rfl))
            try simp only [Act.put, List.getElem_toArray, List.getElem_cons_zero, List.getElem_cons_succ, List.setIfInBounds_toArray, List.set_cons_zero, List.set_cons_succ]
            refine wpAny_take (i := 10) (v := ?vb310x7) rfl (by kernel_rfl) (by kernel_rfl) (by kernel_rfl) (fun _ _ _ h => h) (Or.inl ⟨by rfl, ?yb310x7⟩) ?rb310x7
            case yb310x7 => (intro w'; (try go_simp); (try with_reducible rfl))
            try simp only [Act.put, List.getElem_toArray, List.getElem_cons_zero, List.getElem_cons_succ, List.setIfInBounds_toArray, List.set_cons_zero, List.set_cons_succ]
            refine wpAny_ready (rs := [11]) (by kernel_rfl) (by simp) ?_
            refine AllReady.cons rfl (fun K hK => ?_) AllReady.nil
            go_simp
            refine hK _ _ ?_
            clear hK K
            try simp only [Act.put, List.getElem_toArray, List.getElem_cons_zero, List.getElem_cons_succ, List.setIfInBounds_toArray, List.set_cons_zero, List.set_cons_succ]
            refine wpAny_done (by kernel_rfl) ?_ _
            simp only [OnlyNormal]
            have hW : Wrote W ((W.setCell ⟨w.heap.size, x.1.1 * 2, none⟩ (.int .i64 x.1.2.2.rc.seq)).setCell ⟨w.heap.size, x.1.1 * 2 + 1, none⟩ (.int .i64 sp.2)) w.heap.size (x.1.1 * 2) (Spn (lowOf sp x.1.2.2.rc.seq, max sp.2 x.1.2.2.rc.seq)) := by
              rw [hlo.out, hmv.out]
              exact wrote_setRow w.heap.size [.int .i64 x.1.2.2.rc.seq, .int .i64 sp.2] (x.1.1 * 2) W (fun j hj => by
                match j, hj with
                | 0, _ => exact ⟨_, l0⟩
                | 1, _ => exact ⟨_, l1⟩)
            have hBL : Below w.heap.size W ((W.setCell ⟨w.heap.size, x.1.1 * 2, none⟩ (.int .i64 x.1.2.2.rc.seq)).setCell ⟨w.heap.size, x.1.1 * 2 + 1, none⟩ (.int .i64 sp.2)).drew.drew := ((((Below.refl w.heap.size W).setCell (p := ⟨w.heap.size, x.1.1 * 2, none⟩) (Nat.le_refl _) (.int .i64 x.1.2.2.rc.seq)).setCell (p := ⟨w.heap.size, x.1.1 * 2 + 1, none⟩) (Nat.le_refl _) (.int .i64 sp.2)).drew).drew
            have hBX : Boxed ((W.setCell ⟨w.heap.size, x.1.1 * 2, none⟩ (.int .i64 x.1.2.2.rc.seq)).setCell ⟨w.heap.size, x.1.1 * 2 + 1, none⟩ (.int .i64 sp.2)).drew.drew (w.heap.size + 1) 141 (.slice (some ⟨w.heap.size, 0, none⟩) 4 4) := (hW.block (w.heap.size + 1) (by omega)).trans bV1
            have hRW : Row ((W.setCell ⟨w.heap.size, x.1.1 * 2, none⟩ (.int .i64 x.1.2.2.rc.seq)).setCell ⟨w.heap.size, x.1.1 * 2 + 1, none⟩ (.int .i64 sp.2)).drew.drew (some ⟨w.heap.size, 0, none⟩) (spv (spOf ((pre ++ [x]).map Subtype.val))) := (HROW.out _ hW).drew.drew
            clear hW HROW
            gi_wp2
            exact ⟨((((KeepsOthers.setCell _ _ _).trans (KeepsOthers.setCell _ _ _)).trans (KeepsOthers.drew _)).trans (KeepsOthers.drew _)).from _, hBL, ⟨hBX, hRW⟩, hB1.trans hBL⟩
      · have hz' : (sp.1 == 0) = false := by simpa using hz
        by_cases hq : x.1.2.2.rc.seq < sp.1
        · have hlo : Hid (lowOf sp x.1.2.2.rc.seq = x.1.2.2.rc.seq) := by unfold Hid lowOf; rw [if_pos (.inr hq)]
          gi_wp2
          refine region_round_held (S := fun w' => w'.cell? ⟨w.heap.size, x.1.1 * 2, none⟩ = some (.int .i64 sp.1) ∧ w'.cell? ⟨B5, 2, none⟩ = some (.int .i64 x.1.2.2.rc.seq)) (by kernel_rfl) (by kernel_rfl) ⟨l0, x2⟩ (fun hHeld => ?_)
          refine wpAnyH_take (i := 0) (v := ?va40) rfl (by kernel_rfl) (by kernel_rfl) (by kernel_rfl) (fun _ _ _ h => h) (Or.inl ⟨by rfl, ?ya40⟩) hHeld ?ra40
          case ya40 => (intro w' hS; (try dsimp only at hS); obtain ⟨s0, s1⟩ := hS; (try go_simp); (try with_reducible rfl))
          try simp only [Act.put, List.getElem_toArray, List.getElem_cons_zero, List.getElem_cons_succ, List.setIfInBounds_toArray, List.set_cons_zero, List.set_cons_succ]
          refine wpAnyH_take (i := 1) (v := ?va41) rfl (by kernel_rfl) (by kernel_rfl) (by kernel_rfl) (fun _ _ _ h => h) (Or.inl ⟨by rfl, ?ya41⟩) hHeld ?ra41
          case ya41 => (intro w' hS; (try dsimp only at hS); obtain ⟨s0, s1⟩ := hS; (try go_simp); (try with_reducible rfl))
          try simp only [Act.put, List.getElem_toArray, List.getElem_cons_zero, List.getElem_cons_succ, List.setIfInBounds_toArray, List.set_cons_zero, List.set_cons_succ]
          refine wpAnyH_take (i := 2) (v := ?va42) rfl (by kernel_rfl) (by kernel_rfl) (by kernel_rfl) (fun _ _ _ h => h) (Or.inl ⟨by rfl, ?ya42⟩) hHeld ?ra42
          case ya42 => (intro w' hS; (try dsimp only at hS); obtain ⟨s0, s1⟩ := hS; (try go_simp); (try with_reducible rfl))
          try simp only [Act.put, List.getElem_toArray, List.getElem_cons_zero, List.getElem_cons_succ, List.setIfInBounds_toArray, List.set_cons_zero, List.set_cons_succ]
          refine wpAnyH_take (i := 3) (v := ?va43) rfl (by kernel_rfl) (by kernel_rfl) (by kernel_rfl) (fun _ _ _ h => h) (Or.inl ⟨by rfl, ?ya43⟩) hHeld ?ra43
          case ya43 => (intro w' hS; (try dsimp only at hS); obtain ⟨s0, s1⟩ := hS; (try go_simp); (try with_reducible rfl))
          try simp only [Act.put, List.getElem_toArray, List.getElem_cons_zero, List.getElem_cons_succ, List.setIfInBounds_toArray, List.set_cons_zero, List.set_cons_succ]
          refine wpAnyH_take (i := 4) (v := ?va44) rfl (by kernel_rfl) (by kernel_rfl) (by kernel_rfl) (fun _ _ _ h => h) (Or.inl ⟨by rfl, ?ya44⟩) hHeld ?ra44
          case ya44 => (intro w' hS; (try dsimp only at hS); obtain ⟨s0, s1⟩ := hS; (try go_simp); (try with_reducible rfl))
          try simp only [Act.put, List.getElem_toArray, List.getElem_cons_zero, List.getElem_cons_succ, List.setIfInBounds_toArray, List.set_cons_zero, List.set_cons_succ]
          refine wpAnyH_take (i := 5) (v := ?va45) rfl (by kernel_rfl) (by kernel_rfl) (by kernel_rfl) (fun _ _ _ h => h) (Or.inl ⟨by rfl, ?ya45⟩) hHeld ?ra45
          case ya45 => (intro w' hS; (try dsimp only at hS); obtain ⟨s0, s1⟩ := hS; (try go_simp); (try with_reducible rfl))
          try simp only [Act.put, List.getElem_toArray, List.getElem_cons_zero, List.getElem_cons_succ, List.setIfInBounds_toArray, List.set_cons_zero, List.set_cons_succ]
          refine wpAnyH_take (i := 6) (v := ?va46) rfl (by kernel_rfl) (by kernel_rfl) (by kernel_rfl) (fun _ _ _ h => h) (Or.inl ⟨by rfl, ?ya46⟩) hHeld ?ra46
          case ya46 => (intro w' hS; (try dsimp only at hS); obtain ⟨s0, s1⟩ := hS; (try go_simp); (try with_reducible rfl))
          try simp only [Act.put, List.getElem_toArray, List.getElem_cons_zero, List.getElem_cons_succ, List.setIfInBounds_toArray, List.set_cons_zero, List.set_cons_succ]
          refine wpAnyH_take (i := 7) (v := ?va47) rfl (by kernel_rfl) (by kernel_rfl) (by kernel_rfl) (fun _ _ _ h => h) (Or.inl ⟨by rfl, ?ya47⟩) hHeld ?ra47
          case ya47 => (intro w' hS; (try dsimp only at hS); obtain ⟨s0, s1⟩ := hS; (try go_simp); (try with_reducible rfl))
          try simp only [Act.put, List.getElem_toArray, List.getElem_cons_zero, List.getElem_cons_succ, List.setIfInBounds_toArray, List.set_cons_zero, List.set_cons_succ]
          refine wpAnyH_take (i := 8) (v := ?va48) rfl (by kernel_rfl) (by kernel_rfl) (by kernel_rfl) (fun _ _ _ h => h) (Or.inl ⟨by rfl, ?ya48⟩) hHeld ?ra48
          case ya48 => (intro w' hS; (try dsimp only at hS); obtain ⟨s0, s1⟩ := hS; (try go_simp); (try with_reducible rfl))
          try simp only [Act.put, List.getElem_toArray, List.getElem_cons_zero, List.getElem_cons_succ, List.setIfInBounds_toArray, List.set_cons_zero, List.set_cons_succ]
          refine wpAnyH_take (i := 9) (v := ?va49) rfl (by kernel_rfl) (by kernel_rfl) (by kernel_rfl) (fun _ _ _ h => h) (Or.inl ⟨by rfl, ?ya49⟩) hHeld ?ra49
          case ya49 => (intro w' hS; (try dsimp only at hS); obtain ⟨s0, s1⟩ := hS; (try go_simp); (try with_reducible rfl))
          try simp only [Act.put, List.getElem_toArray, List.getElem_cons_zero, List.getElem_cons_succ, List.setIfInBounds_toArray, List.set_cons_zero, List.set_cons_succ]
          refine wpAnyH_take (i := 10) (v := ?va410) rfl (by kernel_rfl) (by kernel_rfl) (by kernel_rfl) (fun _ _ _ h => h) (Or.inl ⟨by rfl, ?ya410⟩) hHeld ?ra410
          case ya410 => (intro w' hS; (try dsimp only at hS); obtain ⟨s0, s1⟩ := hS; (try go_simp); (try with_reducible rfl))
          try simp only [Act.put, List.getElem_toArray, List.getElem_cons_zero, List.getElem_cons_succ, List.setIfInBounds_toArray, List.set_cons_zero, List.set_cons_succ]
          refine wpAnyH_take (i := 11) (v := ?va411) rfl (by kernel_rfl) (by kernel_rfl) (by kernel_rfl) (fun _ _ _ h => h) (Or.inl ⟨by rfl, ?ya411⟩) hHeld ?ra411
          case ya411 => (intro w' hS; (try dsimp only at hS); obtain ⟨s0, s1⟩ := hS; (try go_simp); (try with_reducible rfl))
          try simp only [Act.put, List.getElem_toArray, List.getElem_cons_zero, List.getElem_cons_succ, List.setIfInBounds_toArray, List.set_cons_zero, List.set_cons_succ]
          refine wpAnyH_take (i := 12) (v := ?va412) rfl (by kernel_rfl) (by kernel_rfl) (by kernel_rfl) (fun _ _ _ h => h) (Or.inl ⟨by rfl, ?ya412⟩) hHeld ?ra412
          case ya412 => (intro w' hS; (try dsimp only at hS); obtain ⟨s0, s1⟩ := hS; (try go_simp); (try with_reducible rfl))
          try simp only [Act.put, List.getElem_toArray, List.getElem_cons_zero, List.getElem_cons_succ, List.setIfInBounds_toArray, List.set_cons_zero, List.set_cons_succ]
          refine wpAnyH_take (i := 13) (v := ?va413) rfl (by kernel_rfl) (by kernel_rfl) (by kernel_rfl) (fun _ _ _ h => h) (Or.inl ⟨by rfl, ?ya413⟩) hHeld ?ra413
          case ya413 => (intro w' hS; (try dsimp only at hS); obtain ⟨s0, s1⟩ := hS; (try go_simp); (try with_reducible rfl))
          try simp only [Act.put, List.getElem_toArray, List.getElem_cons_zero, List.getElem_cons_succ, List.setIfInBounds_toArray, List.set_cons_zero, List.set_cons_succ]
          refine wpAnyH_take (i := 14) (v := ?va414) rfl (by kernel_rfl) (by kernel_rfl) (by kernel_rfl) (fun _ _ _ h => h) (Or.inl ⟨by rfl, ?ya414⟩) hHeld ?ra414
          case ya414 => (intro w' hS; (try dsimp only at hS); obtain ⟨s0, s1⟩ := hS; (try go_simp); (try with_reducible rfl))
          try simp only [Act.put, List.getElem_toArray, List.getElem_cons_zero, List.getElem_cons_succ, List.setIfInBounds_toArray, List.set_cons_zero, List.set_cons_succ]
          refine wpAnyH_done (by kernel_rfl) ?_ _
          simp only [OnlyNormal]
          gi_wp2
          by_cases hmx : sp.2 < x.1.2.2.rc.seq
          · have hmv : Hid (max sp.2 x.1.2.2.rc.seq = x.1.2.2.rc.seq) := by unfold Hid; omega
            refine region_round (by kernel_rfl) (by kernel_rfl) ?_
            refine wpAny_take (i := 0) (v := ?vb50) rfl (by kernel_rfl) (by kernel_rfl) (by kernel_rfl) (fun _ _ _ h => h) (Or.inl ⟨by rfl, ?yb50⟩) ?rb50
            case yb50 => (intro w'; (try go_simp); (try with_reducible rfl))
            try simp only [Act.put, List.getElem_toArray, List.getElem_cons_zero, List.getElem_cons_succ, List.setIfInBounds_toArray, List.set_cons_zero, List.set_cons_succ]
            refine wpAny_take (i := 1) (v := ?vb51) rfl (by kernel_rfl) (by kernel_rfl) (by kernel_rfl) (fun _ _ _ h => h) (Or.inl ⟨by rfl, ?yb51⟩) ?rb51
            case yb51 => (intro w'; (try go_simp); (try with_reducible rfl))
            try simp only [Act.put, List.getElem_toArray, List.getElem_cons_zero, List.getElem_cons_succ, List.setIfInBounds_toArray, List.set_cons_zero, List.set_cons_succ]
            refine wpAny_take (i := 2) (v := ?vb52) rfl (by kernel_rfl) (by kernel_rfl) (by kernel_rfl) (fun _ _ _ h => h) (Or.inl ⟨by rfl, ?yb52⟩) ?rb52
            case yb52 => (intro w'; (try go_simp); (try with_reducible rfl))
            try simp only [Act.put, List.getElem_toArray, List.getElem_cons_zero, List.getElem_cons_succ, List.setIfInBounds_toArray, List.set_cons_zero, List.set_cons_succ]
            refine wpAny_take (i := 3) (v := ?vb53) rfl (by kernel_rfl) (by kernel_rfl) (by kernel_rfl) (fun _ _ _ h => h) (Or.inl ⟨by rfl, ?yb53⟩) ?rb53
            case yb53 => (intro w'; (try go_simp); (try with_reducible rfl))
            try simp only [Act.put, List.getElem_toArray, List.getElem_cons_zero, List.getElem_cons_succ, List.setIfInBounds_toArray, List.set_cons_zero, List.set_cons_succ]
            refine wpAny_take (i := 5) (v := ?vb55) rfl (by kernel_rfl) (by kernel_rfl) (by kernel_rfl) (fun _ _ _ h => h) (Or.inl ⟨by rfl, ?yb55⟩) ?rb55
            case yb55 => (intro w'; (try go_simp); (try with_reducible rfl))
            try simp only [Act.put, List.getElem_toArray, List.getElem_cons_zero, List.getElem_cons_succ, List.setIfInBounds_toArray, List.set_cons_zero, List.set_cons_succ]
            refine wpAny_take (i := 6) (v := ?vb56) rfl (by kernel_rfl) (by kernel_rfl) (by kernel_rfl) (fun _ _ _ h => h) (Or.inl ⟨by rfl, ?yb56⟩) ?rb56
            case yb56 => (intro w'; (try go_simp); (try with_reducible rfl))
            try simp only [Act.put, List.getElem_toArray, List.getElem_cons_zero, List.getElem_cons_succ, List.setIfInBounds_toArray, List.set_cons_zero, List.set_cons_succ]
            refine wpAny_ready (rs := [4, 7]) (by kernel_rfl) (by simp) ?_
            refine AllReady.cons rfl (fun K hK => ?_) (AllReady.cons rfl (fun K hK => ?_) AllReady.nil)
            · go_simp
              refine hK _ _ ?_
              clear hK K
              try simp only [Act.put, List.getElem_toArray, List.getElem_cons_zero, List.getElem_cons_succ, List.setIfInBounds_toArray, List.set_cons_zero, List.set_cons_succ]
              refine wpAny_ready (rs := [7]) (by kernel_rfl) (by simp) ?_
              refine AllReady.cons rfl (fun K hK => ?_) AllReady.nil
              go_simp
              refine hK _ _ ?_
              clear hK K
              try simp only [Act.put, List.getElem_toArray, List.getElem_cons_zero, List.getElem_cons_succ, List.setIfInBounds_toArray, List.set_cons_zero, List.set_cons_succ]
              refine wpAny_take (i := 8) (v := ?vb58x4) rfl (by kernel_rfl) (by kernel_rfl) (by kernel_rfl) (fun _ _ _ h => h) (Or.inl ⟨by rfl, ?yb58x4⟩) ?rb58x4
              case yb58x4 => (intro w'; (try go_simp); (try with_reducible rfl))
              try simp only [Act.put, List.getElem_toArray, List.getElem_cons_zero, List.getElem_cons_succ, List.setIfInBounds_toArray, List.set_cons_zero, List.set_cons_succ]
              refine wpAny_take (i := 9) (v := ?vb59x4) rfl (by kernel_rfl) (by kernel_rfl) (by kernel_rfl) (fun _ _ _ h => h) (Or.inl ⟨by rfl, ?yb59x4⟩) ?rb59x4
              case yb59x4 => (intro w'; (try go_simp); (try with_reducible rfl))
              try simp only [Act.put, List.getElem_toArray, List.getElem_cons_zero, List.getElem_cons_succ, List.setIfInBounds_toArray, List.set_cons_zero, List.set_cons_succ]
              refine wpAny_take (i := 10) (v := ?vb510x4) rfl (by kernel_rfl) (by kernel_rfl) (by kernel_rfl) (fun _ _ _ h => h) (Or.inl ⟨by rfl, ?yb510x4⟩) ?rb510x4
              case yb510x4 => (intro w'; (try go_simp); (try with_reducible rfl))
              try simp only [Act.put, List.getElem_toArray, List.getElem_cons_zero, List.getElem_cons_succ, List.setIfInBounds_toArray, List.set_cons_zero, List.set_cons_succ]
              refine wpAny_ready (rs := [11]) (by kernel_rfl) (by simp) ?_
              refine AllReady.cons rfl (fun K hK => ?_) AllReady.nil
              go_simp
              refine hK _ _ ?_
              clear hK K
              try simp only [Act.put, List.getElem_toArray, List.getElem_cons_zero, List.getElem_cons_succ, List.setIfInBounds_toArray, List.set_cons_zero, List.set_cons_succ]
              refine wpAny_done (by kernel_rfl) ?_ _
              simp only [OnlyNormal]
              have hW : Wrote W ((W.setCell ⟨w.heap.size, x.1.1 * 2, none⟩ (.int .i64 x.1.2.2.rc.seq)).setCell ⟨w.heap.size, x.1.1 * 2 + 1, none⟩ (.int .i64 x.1.2.2.rc.seq)) w.heap.size (x.1.1 * 2) (Spn (lowOf sp x.1.2.2.rc.seq, max sp.2 x.1.2.2.rc.seq)) := by
                rw [hlo.out, hmv.out]
                exact wrote_setRow w.heap.size [.int .i64 x.1.2.2.rc.seq, .int .i64 x.1.2.2.rc.seq] (x.1.1 * 2) W (fun j hj => by
                  match j, hj with
                  | 0, _ => exact ⟨_, l0⟩
                  | 1, _ => exact ⟨_, l1⟩)
              have hBL : Below w.heap.size W ((W.setCell ⟨w.heap.size, x.1.1 * 2, none⟩ (.int .i64 x.1.2.2.rc.seq)).setCell ⟨w.heap.size, x.1.1 * 2 + 1, none⟩ (.int .i64 x.1.2.2.rc.seq)).drew.drew := ((((Below.refl w.heap.size W).setCell (p := ⟨w.heap.size, x.1.1 * 2, none⟩) (Nat.le_refl _) (.int .i64 x.1.2.2.rc.seq)).setCell (p := ⟨w.heap.size, x.1.1 * 2 + 1, none⟩) (Nat.le_refl _) (.int .i64 x.1.2.2.rc.seq)).drew).drew
              have hBX : Boxed ((W.setCell ⟨w.heap.size, x.1.1 * 2, none⟩ (.int .i64 x.1.2.2.rc.seq)).setCell ⟨w.heap.size, x.1.1 * 2 + 1, none⟩ (.int .i64 x.1.2.2.rc.seq)).drew.drew (w.heap.size + 1) 141 (.slice (some ⟨w.heap.size, 0, none⟩) 4 4) := (hW.block (w.heap.size + 1) (by omega)).trans bV1
              have hRW : Row ((W.setCell ⟨w.heap.size, x.1.1 * 2, none⟩ (.int .i64 x.1.2.2.rc.seq)).setCell ⟨w.heap.size, x.1.1 * 2 + 1, none⟩ (.int .i64 x.1.2.2.rc.seq)).drew.drew (some ⟨w.heap.size, 0, none⟩) (spv (spOf ((pre ++ [x]).map Subtype.val))) := (HROW.out _ hW).drew.drew
              clear hW HROW
              gi_wp2
              exact ⟨((((KeepsOthers.setCell _ _ _).trans (KeepsOthers.setCell _ _ _)).trans (KeepsOthers.drew _)).trans (KeepsOthers.drew _)).from _, hBL, ⟨hBX, hRW⟩, hB1.trans hBL⟩
            · go_simp
              refine hK _ _ ?_
              clear hK K
              try simp only [Act.put, List.getElem_toArray, List.getElem_cons_zero, List.getElem_cons_succ, List.setIfInBounds_toArray, List.set_cons_zero, List.set_cons_succ]
              refine wpAny_ready (rs := [4]) (by kernel_rfl) (by simp) ?_
              refine AllReady.cons rfl (fun K hK => ?_) AllReady.nil
              go_simp
              refine hK _ _ ?_
              clear hK K
              try simp only [Act.put, List.getElem_toArray, List.getElem_cons_zero, List.getElem_cons_succ, List.setIfInBounds_toArray, List.set_cons_zero, List.set_cons_succ]
              refine wpAny_take (i := 8) (v := ?vb58x7) rfl (by kernel_rfl) (by kernel_rfl) (by kernel_rfl) (fun _ _ _ h => h) (Or.inl ⟨by rfl, ?yb58x7⟩) ?rb58x7
              case yb58x7 => (intro w'; (try go_simp); (try with_reducible rfl))
              try simp only [Act.put, List.getElem_toArray, List.getElem_cons_zero, List.getElem_cons_succ, List.setIfInBounds_toArray, List.set_cons_zero, List.set_cons_succ]
              refine wpAny_take (i := 9) (v := ?vb59x7) rfl (by kernel_rfl) (by kernel_rfl) (by kernel_rfl) (fun _ _ _ h => h) (Or.inl ⟨by rfl, ?yb59x7⟩) ?rb59x7
              case yb59x7 => (intro w'; (try go_simp); (try with_reducible rfl))
              try simp only [Act.put, List.getElem_toArray, List.getElem_cons_zero, List.getElem_cons_succ, List.setIfInBounds_toArray, List.set_cons_zero, List.set_cons_succ]
              refine wpAny_take (i := 10) (v := ?vb510x7) rfl (by kernel_rfl) (by kernel_rfl) (by kernel_rfl) (fun _ _ _ h => h) (Or.inl ⟨by rfl, ?yb510x7⟩) ?rb510x7
              case yb510x7 => (intro w'; (try go_simp); (try with_reducible rfl))
              try simp only [Act.put, List.getElem_toArray, List.getElem_cons_zero, List.getElem_cons_succ, List.setIfInBounds_toArray, List.set_cons_zero, List.set_cons_succ]
              refine wpAny_ready (rs := [11]) (by kernel_rfl) (by simp) ?_
              refine AllReady.cons rfl (fun K hK => ?_) AllReady.nil
              go_simp
              refine hK _ _ ?_
              clear hK K
              try simp only [Act.put, List.getElem_toArray, List.getElem_cons_zero, List.getElem_cons_succ, List.setIfInBounds_toArray, List.set_cons_zero, List.set_cons_succ]
              refine wpAny_done (by kernel_rfl) ?_ _
              simp only [OnlyNormal]
              have hW : Wrote W ((W.setCell ⟨w.heap.size, x.1.1 * 2, none⟩ (.int .i64 x.1.2.2.rc.seq)).setCell ⟨w.heap.size, x.1.1 * 2 + 1, none⟩ (.int .i64 x.1.2.2.rc.seq)) w.heap.size (x.1.1 * 2) (Spn (lowOf sp x.1.2.2.rc.seq, max sp.2 x.1.2.2.rc.seq)) := by
                rw [hlo.out, hmv.out]
                exact wrote_setRow w.heap.size [.int .i64 x.1.2.2.rc.seq, .int .i64 x.1.2.2.rc.seq] (x.1.1 * 2) W (fun j hj => by
                  match j, hj with
                  | 0, _ => exact ⟨_, l0⟩
                  | 1, _ => exact ⟨_, l1⟩)
              have hBL : Below w.heap.size W ((W.setCell ⟨w.heap.size, x.1.1 * 2, none⟩ (.int .i64 x.1.2.2.rc.seq)).setCell ⟨w.heap.size, x.1.1 * 2 + 1, none⟩ (.int .i64 x.1.2.2.rc.seq)).drew.drew := ((((Below.refl w.heap.size W).setCell (p := ⟨w.heap.size, x.1.1 * 2, none⟩) (Nat.le_refl _) (.int .i64 x.1.2.2.rc.seq)).setCell (p := ⟨w.heap.size, x.1.1 * 2 + 1, none⟩) (Nat.le_refl _) (.int .i64 x.1.2.2.rc.seq)).drew).drew
              have hBX : Boxed ((W.setCell ⟨w.heap.size, x.1.1 * 2, none⟩ (.int .i64 x.1.2.2.rc.seq)).setCell ⟨w.heap.size, x.1.1 * 2 + 1, none⟩ (.int .i64 x.1.2.2.rc.seq)).drew.drew (w.heap.size + 1) 141 (.slice (some ⟨w.heap.size, 0, none⟩) 4 4) := (hW.block (w.heap.size + 1) (by omega)).trans bV1
              have hRW : Row ((W.setCell ⟨w.heap.size, x.1.1 * 2, none⟩ (.int .i64 x.1.2.2.rc.seq)).setCell ⟨w.heap.size, x.1.1 * 2 + 1, none⟩ (.int .i64 x.1.2.2.rc.seq)).drew.drew (some ⟨w.heap.size, 0, none⟩) (spv (spOf ((pre ++ [x]).map Subtype.val))) := (HROW.out _ hW).drew.drew
              clear hW HROW
              gi_wp2
              exact ⟨((((KeepsOthers.setCell _ _ _).trans (KeepsOthers.setCell _ _ _)).trans (KeepsOthers.drew _)).trans (KeepsOthers.drew _)).from _, hBL, ⟨hBX, hRW⟩, hB1.trans hBL⟩
          · have hmv : Hid (max sp.2 x.1.2.2.rc.seq = sp.2) := by unfold Hid; omega
            refine region_round (by kernel_rfl) (by kernel_rfl) ?_
            refine wpAny_take (i := 0) (v := ?vb60) rfl (by kernel_rfl) (by kernel_rfl) (by kernel_rfl) (fun _ _ _ h => h) (Or.inl ⟨by rfl, ?yb60⟩) ?rb60
            case yb60 => (intro w'; (try go_simp); (try with_reducible rfl))
            try simp only [Act.put, List.getElem_toArray, List.getElem_cons_zero, List.getElem_cons_succ, List.setIfInBounds_toArray, List.set_cons_zero, List.set_cons_succ]
            refine wpAny_take (i := 1) (v := ?vb61) rfl (by kernel_rfl) (by kernel_rfl) (by kernel_rfl) (fun _ _ _ h => h) (Or.inl ⟨by rfl, ?yb61⟩) ?rb61
            case yb61 => (intro w'; (try go_simp); (try with_reducible rfl))
            try simp only [Act.put, List.getElem_toArray, List.getElem_cons_zero, List.getElem_cons_succ, List.setIfInBounds_toArray, List.set_cons_zero, List.set_cons_succ]
            refine wpAny_take (i := 2) (v := ?vb62) rfl (by kernel_rfl) (by kernel_rfl) (by kernel_rfl) (fun _ _ _ h => h) (Or.inl ⟨by rfl, ?yb62⟩) ?rb62
            case yb62 => (intro w'; (try go_simp); (try with_reducible rfl))
            try simp only [Act.put, List.getElem_toArray, List.getElem_cons_zero, List.getElem_cons_succ, List.setIfInBounds_toArray, List.set_cons_zero, List.set_cons_succ]
            refine wpAny_take (i := 3) (v := ?vb63) rfl (by kernel_rfl) (by kernel_rfl) (by kernel_rfl) (fun _ _ _ h => h) (Or.inl ⟨by rfl, ?yb63⟩) ?rb63
            case yb63 => (intro w'; (try go_simp); (try with_reducible rfl))
            try simp only [Act.put, List.getElem_toArray, List.getElem_cons_zero, List.getElem_cons_succ, List.setIfInBounds_toArray, List.set_cons_zero, List.set_cons_succ]
            refine wpAny_take (i := 5) (v := ?vb65) rfl (by kernel_rfl) (by kernel_rfl) (by kernel_rfl) (fun _ _ _ h => h) (Or.inl ⟨by rfl, ?yb65⟩) ?rb65
            case yb65 => (intro w'; (try go_simp); (try with_reducible rfl))
            try simp only [Act.put, List.getElem_toArray, List.getElem_cons_zero, List.getElem_cons_succ, List.setIfInBounds_toArray, List.set_cons_zero, List.set_cons_succ]
            refine wpAny_take (i := 6) (v := ?vb66) rfl (by kernel_rfl) (by kernel_rfl) (by kernel_rfl) (fun _ _ _ h => h) (Or.inl ⟨by rfl, ?yb66⟩) ?rb66
            case yb66 => (intro w'; (try go_simp); (try with_reducible rfl))
            try simp only [Act.put, List.getElem_toArray, List.getElem_cons_zero, List.getElem_cons_succ, List.setIfInBounds_toArray, List.set_cons_zero, List.set_cons_succ]
            refine wpAny_ready (rs := [4, 7]) (by kernel_rfl) (by simp) ?_
            refine AllReady.cons rfl (fun K hK => ?_) (AllReady.cons rfl (fun K hK => ?_) AllReady.nil)
            · go_simp
              refine hK _ _ ?_
              clear hK K
              try simp only [Act.put, List.getElem_toArray, List.getElem_cons_zero, List.getElem_cons_succ, List.setIfInBounds_toArray, List.set_cons_zero, List.set_cons_succ]
              refine wpAny_ready (rs := [7]) (by kernel_rfl) (by simp) ?_
              refine AllReady.cons rfl (fun K hK => ?_) AllReady.nil
              go_simp
              refine hK _ _ ?_
              clear hK K
              try simp only [Act.put, List.getElem_toArray, List.getElem_cons_zero, List.getElem_cons_succ, List.setIfInBounds_toArray, List.set_cons_zero, List.set_cons_succ]
              refine wpAny_take (i := 8) (v := ?vb68x4) rfl (by kernel_rfl) (by kernel_rfl) (by kernel_rfl) (fun _ _ _ h => h) (Or.inl ⟨by rfl, ?yb68x4⟩) ?rb68x4
              case yb68x4 => (intro w'; (try go_simp); (try with_reducible rfl))
              try simp only [Act.put, List.getElem_toArray, List.getElem_cons_zero, List.getElem_cons_succ, List.setIfInBounds_toArray, List.set_cons_zero, List.set_cons_succ]
              refine wpAny_take (i := 9) (v := ?vb69x4) rfl (by kernel_rfl) (by kernel_rfl) (by kernel_rfl) (fun _ _ _ h => h) (Or.inl ⟨by rfl, ?yb69x4⟩) ?rb69x4
              case yb69x4 => (intro w'; (try go_simp); (try with_reducible rfl))
              try simp only [Act.put, List.getElem_toArray, List.getElem_cons_zero, List.getElem_cons_succ, List.setIfInBounds_toArray, List.set_cons_zero, List.set_cons_succ]
              refine wpAny_take (i := 10) (v := ?vb610x4) rfl (by kernel_rfl) (by kernel_rfl) (by kernel_rfl) (fun _ _ _ h => h) (Or.inl ⟨by rfl, ?yb610x4⟩) ?rb610x4
              case yb610x4 => (intro w'; (try go_simp); (try with_reducible rfl))
              try simp only [Act.put, List.getElem_toArray, List.getElem_cons_zero, List.getElem_cons_succ, List.setIfInBounds_toArray, List.set_cons_zero, List.set_cons_succ]
              refine wpAny_ready (rs := [11]) (by kernel_rfl) (by simp) ?_
              refine AllReady.cons rfl (fun K hK => ?_) AllReady.nil
              go_simp
              refine hK _ _ ?_
              clear hK K
              try simp only [Act.put, List.getElem_toArray, List.getElem_cons_zero, List.getElem_cons_succ, List.setIfInBounds_toArray, List.set_cons_zero, List.set_cons_succ]
              refine wpAny_done (by kernel_rfl) ?_ _
              simp only [OnlyNormal]
              have hW : Wrote W ((W.setCell ⟨w.heap.size, x.1.1 * 2, none⟩ (.int .i64 x.1.2.2.rc.seq)).setCell ⟨w.heap.size, x.1.1 * 2 + 1, none⟩ (.int .i64 sp.2)) w.heap.size (x.1.1 * 2) (Spn (lowOf sp x.1.2.2.rc.seq, max sp.2 x.1.2.2.rc.seq)) := by
                rw [hlo.out, hmv.out]
                exact wrote_setRow w.heap.size [.int .i64 x.1.2.2.rc.seq, .int .i64 sp.2] (x.1.1 * 2) W (fun j hj => by
                  match j, hj with
                  | 0, _ => exact ⟨_, l0⟩
                  | 1, _ => exact ⟨_, l1⟩)
              have hBL : Below w.heap.size W ((W.setCell ⟨w.heap.size, x.1.1 * 2, none⟩ (.int .i64 x.1.2.2.rc.seq)).setCell ⟨w.heap.size, x.1.1 * 2 + 1, none⟩ (.int .i64 sp.2)).drew.drew := ((((Below.refl w.heap.size W).setCell (p := ⟨w.heap.size, x.1.1 * 2, none⟩) (Nat.le_refl _) (.int .i64 x.1.2.2.rc.seq)).setCell (p := ⟨w.heap.size, x.1.1 * 2 + 1, none⟩) (Nat.le_refl _) (.int .i64 sp.2)).drew).drew
              have hBX : Boxed ((W.setCell ⟨w.heap.size, x.1.1 * 2, none⟩ (.int .i64 x.1.2.2.rc.seq)).setCell ⟨w.heap.size, x.1.1 * 2 + 1, none⟩ (.int .i64 sp.2)).drew.drew (w.heap.size + 1) 141 (.slice (some ⟨w.heap.size, 0, none⟩) 4 4) := (hW.block (w.heap.size + 1) (by omega)).trans bV1
              have hRW : Row ((W.setCell ⟨w.heap.size, x.1.1 * 2, none⟩ (.int .i64 x.1.2.2.rc.seq)).setCell ⟨w.heap.size, x.1.1 * 2 + 1, none⟩ (.int .i64 sp.2)).drew.drew (some ⟨w.heap.size, 0, none⟩) (spv (spOf ((pre ++ [x]).map Subtype.val))) := (HROW.out _ hW).drew.drew
              clear hW HROW
              gi_wp2
              exact ⟨((((KeepsOthers.setCell _ _ _).trans (KeepsOthers.setCell _ _ _)).trans (KeepsOthers.drew _)).trans (KeepsOthers.drew _)).from _, hBL, ⟨hBX, hRW⟩, hB1.trans hBL⟩
            · go_simp
              refine hK _ _ ?_
              clear hK K
              try simp only [Act.put, List.getElem_toArray, List.getElem_cons_zero, List.getElem_cons_succ, List.setIfInBounds_toArray, List.set_cons_zero, List.set_cons_succ]
              refine wpAny_ready (rs := [4]) (by kernel_rfl) (by simp) ?_
              refine AllReady.cons rfl (fun K hK => ?_) AllReady.nil
              go_simp
              refine hK _ _ ?_
              clear hK K
              try simp only [Act.put, List.getElem_toArray, List.getElem_cons_zero, List.getElem_cons_succ, List.setIfInBounds_toArray, List.set_cons_zero, List.set_cons_succ]
              refine wpAny_take (i := 8) (v := ?vb68x7) rfl (by kernel_rfl) (by kernel_rfl) (by kernel_rfl) (fun _ _ _ h => h) (Or.inl ⟨by rfl, ?yb68x7⟩) ?rb68x7
              case yb68x7 => (intro w'; (try go_simp); (try with_reducible rfl))
              try simp only [Act.put, List.getElem_toArray, List.getElem_cons_zero, List.getElem_cons_succ, List.setIfInBounds_toArray, List.set_cons_zero, List.set_cons_succ]
              refine wpAny_take (i := 9) (v := ?vb69x7) rfl (by kernel_rfl) (by kernel_rfl) (by kernel_rfl) (fun _ _ _ h => h) (Or.inl ⟨by rfl, ?yb69x7⟩) ?rb69x7
              case yb69x7 => (intro w'; (try go_simp); (try with_reducible rfl))
              try simp only [Act.put, List.getElem_toArray, List.getElem_cons_zero, List.getElem_cons_succ, List.setIfInBounds_toArray, List.set_cons_zero, List.set_cons_succ]
              refine wpAny_take (i := 10) (v := ?vb610x7) rfl (by kernel_rfl) (by kernel_rfl) (by kernel_rfl) (fun _ _ _ h => h) (Or.inl ⟨by rfl, ?yb610x7⟩) ?rb610x7
              case yb610x7 => (intro w'; (try go_simp); (try with_reducible rfl))
              try simp only [Act.put, List.getElem_toArray, List.getElem_cons_zero, List.getElem_cons_succ, List.setIfInBounds_toArray, List.set_cons_zero, List.set_cons_succ]
              refine wpAny_ready (rs := [11]) (by kernel_rfl) (by simp) ?_
              refine AllReady.cons rfl (fun K hK => ?_) AllReady.nil
              go_simp
              refine hK _ _ ?_
              clear hK K
              try simp only [Act.put, List.getElem_toArray, List.getElem_cons_zero, List.getElem_cons_succ, List.setIfInBounds_toArray, List.set_cons_zero, List.set_cons_succ]
              refine wpAny_done (by kernel_rfl) ?_ _
              simp only [OnlyNormal]
              have hW : Wrote W ((W.setCell ⟨w.heap.size, x.1.1 * 2, none⟩ (.int .i64 x.1.2.2.rc.seq)).setCell ⟨w.heap.size, x.1.1 * 2 + 1, none⟩ (.int .i64 sp.2)) w.heap.size (x.1.1 * 2) (Spn (lowOf sp x.1.2.2.rc.seq, max sp.2 x.1.2.2.rc.seq)) := by
                rw [hlo.out, hmv.out]
                exact wrote_setRow w.heap.size [.int .i64 x.1.2.2.rc.seq, .int .i64 sp.2] (x.1.1 * 2) W (fun j hj => by
                  match j, hj with
                  | 0, _ => exact ⟨_, l0⟩
                  | 1, _ => exact ⟨_, l1⟩)
              have hBL : Below w.heap.size W ((W.setCell ⟨w.heap.size, x.1.1 * 2, none⟩ (.int .i64 x.1.2.2.rc.seq)).setCell ⟨w.heap.size, x.1.1 * 2 + 1, none⟩ (.int .i64 sp.2)).drew.drew := ((((Below.refl w.heap.size W).setCell (p := ⟨w.heap.size, x.1.1 * 2, none⟩) (Nat.le_refl _) (.int .i64 x.1.2.2.rc.seq)).setCell (p := ⟨w.heap.size, x.1.1 * 2 + 1, none⟩) (Nat.le_refl _) (.int .i64 sp.2)).drew).drew
              have hBX : Boxed ((W.setCell ⟨w.heap.size, x.1.1 * 2, none⟩ (.int .i64 x.1.2.2.rc.seq)).setCell ⟨w.heap.size, x.1.1 * 2 + 1, none⟩ (.int .i64 sp.2)).drew.drew (w.heap.size + 1) 141 (.slice (some ⟨w.heap.size, 0, none⟩) 4 4) := (hW.block (w.heap.size + 1) (by omega)).trans bV1
              have hRW : Row ((W.setCell ⟨w.heap.size, x.1.1 * 2, none⟩ (.int .i64 x.1.2.2.rc.seq)).setCell ⟨w.heap.size, x.1.1 * 2 + 1, none⟩ (.int .i64 sp.2)).drew.drew (some ⟨w.heap.size, 0, none⟩) (spv (spOf ((pre ++ [x]).map Subtype.val))) := (HROW.out _ hW).drew.drew
              clear hW HROW
              gi_wp2
              exact ⟨((((KeepsOthers.setCell _ _ _).trans (KeepsOthers.setCell _ _ _)).trans (KeepsOthers.drew _)).trans (KeepsOthers.drew _)).from _, hBL, ⟨hBX, hRW⟩, hB1.trans hBL⟩
        · have hlo : Hid (lowOf sp x.1.2.2.rc.seq = sp.1) := by unfold Hid lowOf; rw [if_neg (by rintro (h | h); exact hz h; exact hq h)]
          gi_wp2
          refine region_round_held (S := fun w' => w'.cell? ⟨w.heap.size, x.1.1 * 2, none⟩ = some (.int .i64 sp.1) ∧ w'.cell? ⟨B5, 2, none⟩ = some (.int .i64 x.1.2.2.rc.seq)) (by kernel_rfl) (by kernel_rfl) ⟨l0, x2⟩ (fun hHeld => ?_)
          refine wpAnyH_take (i := 0) (v := ?va70) rfl (by kernel_rfl) (by kernel_rfl) (by kernel_rfl) (fun _ _ _ h => h) (Or.inl ⟨by rfl, ?ya70⟩) hHeld ?ra70
          case ya70 => (intro w' hS; (try dsimp only at hS); obtain ⟨s0, s1⟩ := hS; (try go_simp); (try with_reducible rfl))
          try simp only [Act.put, List.getElem_toArray, List.getElem_cons_zero, List.getElem_cons_succ, List.setIfInBounds_toArray, List.set_cons_zero, List.set_cons_succ]
          refine wpAnyH_take (i := 1) (v := ?va71) rfl (by kernel_rfl) (by kernel_rfl) (by kernel_rfl) (fun _ _ _ h => h) (Or.inl ⟨by rfl, ?ya71⟩) hHeld ?ra71
          case ya71 => (intro w' hS; (try dsimp only at hS); obtain ⟨s0, s1⟩ := hS; (try go_simp); (try with_reducible rfl))
          try simp only [Act.put, List.getElem_toArray, List.getElem_cons_zero, List.getElem_cons_succ, List.setIfInBounds_toArray, List.set_cons_zero, List.set_cons_succ]
          refine wpAnyH_take (i := 2) (v := ?va72) rfl (by kernel_rfl) (by kernel_rfl) (by kernel_rfl) (fun _ _ _ h => h) (Or.inl ⟨by rfl, ?ya72⟩) hHeld ?ra72
          case ya72 => (intro w' hS; (try dsimp only at hS); obtain ⟨s0, s1⟩ := hS; (try go_simp); (try with_reducible rfl))
          try simp only [Act.put, List.getElem_toArray, List.getElem_cons_zero, List.getElem_cons_succ, List.setIfInBounds_toArray, List.set_cons_zero, List.set_cons_succ]
          refine wpAnyH_take (i := 3) (v := ?va73) rfl (by kernel_rfl) (by kernel_rfl) (by kernel_rfl) (fun _ _ _ h => h) (Or.inl ⟨by rfl, ?ya73⟩) hHeld ?ra73
          case ya73 => (intro w' hS; (try dsimp only at hS); obtain ⟨s0, s1⟩ := hS; (try go_simp); (try with_reducible rfl))
          try simp only [Act.put, List.getElem_toArray, List.getElem_cons_zero, List.getElem_cons_succ, List.setIfInBounds_toArray, List.set_cons_zero, List.set_cons_succ]
          refine wpAnyH_take (i := 4) (v := ?va74) rfl (by kernel_rfl) (by kernel_rfl) (by kernel_rfl) (fun _ _ _ h => h) (Or.inl ⟨by rfl, ?ya74⟩) hHeld ?ra74
          case ya74 => (intro w' hS; (try dsimp only at hS); obtain ⟨s0, s1⟩ := hS; (try go_simp); (try with_reducible rfl))
          try simp only [Act.put, List.getElem_toArray, List.getElem_cons_zero, List.getElem_cons_succ, List.setIfInBounds_toArray, List.set_cons_zero, List.set_cons_succ]
          refine wpAnyH_take (i := 5) (v := ?va75) rfl (by kernel_rfl) (by kernel_rfl) (by kernel_rfl) (fun _ _ _ h => h) (Or.inl ⟨by rfl, ?ya75⟩) hHeld ?ra75
          case ya75 => (intro w' hS; (try dsimp only at hS); obtain ⟨s0, s1⟩ := hS; (try go_simp); (try with_reducible rfl))
          try simp only [Act.put, List.getElem_toArray, List.getElem_cons_zero, List.getElem_cons_succ, List.setIfInBounds_toArray, List.set_cons_zero, List.set_cons_succ]
          refine wpAnyH_take (i := 6) (v := ?va76) rfl (by kernel_rfl) (by kernel_rfl) (by kernel_rfl) (fun _ _ _ h => h) (Or.inl ⟨by rfl, ?ya76⟩) hHeld ?ra76
          case ya76 => (intro w' hS; (try dsimp only at hS); obtain ⟨s0, s1⟩ := hS; (try go_simp); (try with_reducible rfl))
          try simp only [Act.put, List.getElem_toArray, List.getElem_cons_zero, List.getElem_cons_succ, List.setIfInBounds_toArray, List.set_cons_zero, List.set_cons_succ]
          refine wpAnyH_take (i := 7) (v := ?va77) rfl (by kernel_rfl) (by kernel_rfl) (by kernel_rfl) (fun _ _ _ h => h) (Or.inl ⟨by rfl, ?ya77⟩) hHeld ?ra77
          case ya77 => (intro w' hS; (try dsimp only at hS); obtain ⟨s0, s1⟩ := hS; (try go_simp); (try with_reducible rfl))
          try simp only [Act.put, List.getElem_toArray, List.getElem_cons_zero, List.getElem_cons_succ, List.setIfInBounds_toArray, List.set_cons_zero, List.set_cons_succ]
          refine wpAnyH_take (i := 8) (v := ?va78) rfl (by kernel_rfl) (by kernel_rfl) (by kernel_rfl) (fun _ _ _ h => h) (Or.inl ⟨by rfl, ?ya78⟩) hHeld ?ra78
          case ya78 => (intro w' hS; (try dsimp only at hS); obtain ⟨s0, s1⟩ := hS; (try go_simp); (try with_reducible rfl))
          try simp only [Act.put, List.getElem_toArray, List.getElem_cons_zero, List.getElem_cons_succ, List.setIfInBounds_toArray, List.set_cons_zero, List.set_cons_succ]
          refine wpAnyH_take (i := 9) (v := ?va79) rfl (by kernel_rfl) (by kernel_rfl) (by kernel_rfl) (fun _ _ _ h => h) (Or.inl ⟨by rfl, ?ya79⟩) hHeld ?ra79
          case ya79 => (intro w' hS; (try dsimp only at hS); obtain ⟨s0, s1⟩ := hS; (try go_simp); (try with_reducible rfl))
          try simp only [Act.put, List.getElem_toArray, List.getElem_cons_zero, List.getElem_cons_succ, List.setIfInBounds_toArray, List.set_cons_zero, List.set_cons_succ]
          refine wpAnyH_take (i := 10) (v := ?va710) rfl (by kernel_rfl) (by kernel_rfl) (by kernel_rfl) (fun _ _ _ h => h) (Or.inl ⟨by rfl, ?ya710⟩) hHeld ?ra710
          case ya710 => (intro w' hS; (try dsimp only at hS); obtain ⟨s0, s1⟩ := hS; (try go_simp); (try with_reducible rfl))
          try simp only [Act.put, List.getElem_toArray, List.getElem_cons_zero, List.getElem_cons_succ, List.setIfInBounds_toArray, List.set_cons_zero, List.set_cons_succ]
          refine wpAnyH_take (i := 11) (v := ?va711) rfl (by kernel_rfl) (by kernel_rfl) (by kernel_rfl) (fun _ _ _ h => h) (Or.inl ⟨by rfl, ?ya711⟩) hHeld ?ra711
          case ya711 => (intro w' hS; (try dsimp only at hS); obtain ⟨s0, s1⟩ := hS; (try go_simp); (try with_reducible rfl))
          try simp only [Act.put, List.getElem_toArray, List.getElem_cons_zero, List.getElem_cons_succ, List.setIfInBounds_toArray, List.set_cons_zero, List.set_cons_succ]
          refine wpAnyH_take (i := 12) (v := ?va712) rfl (by kernel_rfl) (by kernel_rfl) (by kernel_rfl) (fun _ _ _ h => h) (Or.inl ⟨by rfl, ?ya712⟩) hHeld ?ra712
          case ya712 => (intro w' hS; (try dsimp only at hS); obtain ⟨s0, s1⟩ := hS; (try go_simp); (try with_reducible rfl))
          try simp only [Act.put, List.getElem_toArray, List.getElem_cons_zero, List.getElem_cons_succ, List.setIfInBounds_toArray, List.set_cons_zero, List.set_cons_succ]
          refine wpAnyH_take (i := 13) (v := ?va713) rfl (by kernel_rfl) (by kernel_rfl) (by kernel_rfl) (fun _ _ _ h => h) (Or.inl ⟨by rfl, ?ya713⟩) hHeld ?ra713
          case ya713 => (intro w' hS; (try dsimp only at hS); obtain ⟨s0, s1⟩ := hS; (try go_simp); (try with_reducible rfl))
          try simp only [Act.put, List.getElem_toArray, List.getElem_cons_zero, List.getElem_cons_succ, List.setIfInBounds_toArray, List.set_cons_zero, List.set_cons_succ]
          refine wpAnyH_take (i := 14) (v := ?va714) rfl (by kernel_rfl) (by kernel_rfl) (by kernel_rfl) (fun _ _ _ h => h) (Or.inl ⟨by rfl, ?ya714⟩) hHeld ?ra714
          case ya714 => (intro w' hS; (try dsimp only at hS); obtain ⟨s0, s1⟩ := hS; (try go_simp); (try with_reducible rfl))
          try simp only [Act.put, List.getElem_toArray, List.getElem_cons_zero, List.getElem_cons_succ, List.setIfInBounds_toArray, List.set_cons_zero, List.set_cons_succ]
          refine wpAnyH_done (by kernel_rfl) ?_ _
          simp only [OnlyNormal]
          gi_wp2
          by_cases hmx : sp.2 < x.1.2.2.rc.seq
          · have hmv : Hid (max sp.2 x.1.2.2.rc.seq = x.1.2.2.rc.seq) := by unfold Hid; omega
            refine region_round (by kernel_rfl) (by kernel_rfl) ?_
            refine wpAny_take (i := 0) (v := ?vb80) rfl (by kernel_rfl) (by kernel_rfl) (by kernel_rfl) (fun _ _ _ h => h) (Or.inl ⟨by rfl, ?yb80⟩) ?rb80
            case yb80 => (intro w'; (try go_simp); (try with_reducible rfl))
            try simp only [Act.put, List.getElem_toArray, List.getElem_cons_zero, List.getElem_cons_succ, List.setIfInBounds_toArray, List.set_cons_zero, List.set_cons_succ]
            refine wpAny_take (i := 1) (v := ?vb81) rfl (by kernel_rfl) (by kernel_rfl) (by kernel_rfl) (fun _ _ _ h => h) (Or.inl ⟨by rfl, ?yb81⟩) ?rb81
            case yb81 => (intro w'; (try go_simp); (try with_reducible rfl))
            try simp only [Act.put, List.getElem_toArray, List.getElem_cons_zero, List.getElem_cons_succ, List.setIfInBounds_toArray, List.set_cons_zero, List.set_cons_succ]
            refine wpAny_take (i := 2) (v := ?vb82) rfl (by kernel_rfl) (by kernel_rfl) (by kernel_rfl) (fun _ _ _ h => h) (Or.inl ⟨by rfl, ?yb82⟩) ?rb82
            case yb82 => (intro w'; (try go_simp); (try with_reducible rfl))
            try simp only [Act.put, List.getElem_toArray, List.getElem_cons_zero, List.getElem_cons_succ, List.setIfInBounds_toArray, List.set_cons_zero, List.set_cons_succ]
            refine wpAny_take (i := 3) (v := ?vb83) rfl (by kernel_rfl) (by kernel_rfl) (by kernel_rfl) (fun _ _ _ h => h) (Or.inl ⟨by rfl, ?yb83⟩) ?rb83
            case yb83 => (intro w'; (try go_simp); (try with_reducible rfl))
            try simp only [Act.put, List.getElem_toArray, List.getElem_cons_zero, List.getElem_cons_succ, List.setIfInBounds_toArray, List.set_cons_zero, List.set_cons_succ]
            refine wpAny_take (i := 5) (v := ?vb85) rfl (by kernel_rfl) (by kernel_rfl) (by kernel_rfl) (fun _ _ _ h => h) (Or.inl ⟨by rfl, ?yb85⟩) ?rb85
            case yb85 => (intro w'; (try go_simp); (try with_reducible rfl))
            try simp only [Act.put, List.getElem_toArray, List.getElem_cons_zero, List.getElem_cons_succ, List.setIfInBounds_toArray, List.set_cons_zero, List.set_cons_succ]
            refine wpAny_take (i := 6) (v := ?vb86) rfl (by kernel_rfl) (by kernel_rfl) (by kernel_rfl) (fun _ _ _ h => h) (Or.inl ⟨by rfl, ?yb86⟩) ?rb86
            case yb86 => (intro w'; (try go_simp); (try with_reducible rfl))
            try simp only [Act.put, List.getElem_toArray, List.getElem_cons_zero, List.getElem_cons_succ, List.setIfInBounds_toArray, List.set_cons_zero, List.set_cons_succ]
            refine wpAny_ready (rs := [4, 7]) (by kernel_rfl) (by simp) ?_
            refine AllReady.cons rfl (fun K hK => ?_) (AllReady.cons rfl (fun K hK => ?_) AllReady.nil)
            · go_simp
              refine hK _ _ ?_
              clear hK K
              try simp only [Act.put, List.getElem_toArray, List.getElem_cons_zero, List.getElem_cons_succ, List.setIfInBounds_toArray, List.set_cons_zero, List.set_cons_succ]
              refine wpAny_ready (rs := [7]) (by kernel_rfl) (by simp) ?_
              refine AllReady.cons rfl (fun K hK => ?_) AllReady.nil
              go_simp
              refine hK _ _ ?_
              clear hK K
              try simp only [Act.put, List.getElem_toArray, List.getElem_cons_zero, List.getElem_cons_succ, List.setIfInBounds_toArray, List.set_cons_zero, List.set_cons_succ]
              refine wpAny_take (i := 8) (v := ?vb88x4) rfl (by kernel_rfl) (by kernel_rfl) (by kernel_rfl) (fun _ _ _ h => h) (Or.inl ⟨by rfl, ?yb88x4⟩) ?rb88x4
              case yb88x4 => (intro w'; (try go_simp); (try with_reducible rfl))
              try simp only [Act.put, List.getElem_toArray, List.getElem_cons_zero, List.getElem_cons_succ, List.setIfInBounds_toArray, List.set_cons_zero, List.set_cons_succ]
              refine wpAny_take (i := 9) (v := ?vb89x4) rfl (by kernel_rfl) (by kernel_rfl) (by kernel_rfl) (fun _ _ _ h => h) (Or.inl ⟨by rfl, ?yb89x4⟩) ?rb89x4
              case yb89x4 => (intro w'; (try go_simp); (try with_reducible rfl))
              try simp only [Act.put, List.getElem_toArray, List.getElem_cons_zero, List.getElem_cons_succ, List.setIfInBounds_toArray, List.set_cons_zero, List.set_cons_succ]
              refine wpAny_take (i := 10) (v := ?vb810x4) rfl (by kernel_rfl) (by kernel_rfl) (by kernel_rfl) (fun _ _ _ h => h) (Or.inl ⟨by rfl, ?yb810x4⟩) ?rb810x4
              case yb810x4 => (intro w'; (try go_simp); (try with_reducible rfl))
              try simp only [Act.put, List.getElem_toArray, List.getElem_cons_zero, List.getElem_cons_succ, List.setIfInBounds_toArray, List.set_cons_zero, List.set_cons_succ]
              refine wpAny_ready (rs := [11]) (by kernel_rfl) (by simp) ?_
              refine AllReady.cons rfl (fun K hK => ?_) AllReady.nil
              go_simp
              refine hK _ _ ?_
              clear hK K
              try simp only [Act.put, List.getElem_toArray, List.getElem_cons_zero, List.getElem_cons_succ, List.setIfInBounds_toArray, List.set_cons_zero, List.set_cons_succ]
              refine wpAny_done (by kernel_rfl) ?_ _
              simp only [OnlyNormal]
              have hW : Wrote W (W.setCell ⟨w.heap.size, x.1.1 * 2 + 1, none⟩ (.int .i64 x.1.2.2.rc.seq)) w.heap.size (x.1.1 * 2) (Spn (lowOf sp x.1.2.2.rc.seq, max sp.2 x.1.2.2.rc.seq)) := by
                rw [hlo.out, hmv.out]
                exact (wrote_one l1 (.int .i64 x.1.2.2.rc.seq)).less l0
              have hBL : Below w.heap.size W (W.setCell ⟨w.heap.size, x.1.1 * 2 + 1, none⟩ (.int .i64 x.1.2.2.rc.seq)).drew.drew := (((Below.refl w.heap.size W).setCell (p := ⟨w.heap.size, x.1.1 * 2 + 1, none⟩) (Nat.le_refl _) (.int .i64 x.1.2.2.rc.seq)).drew).drew
              have hBX : Boxed (W.setCell ⟨w.heap.size, x.1.1 * 2 + 1, none⟩ (.int .i64 x.1.2.2.rc.seq)).drew.drew (w.heap.size + 1) 141 (.slice (some ⟨w.heap.size, 0, none⟩) 4 4) := (hW.block (w.heap.size + 1) (by omega)).trans bV1
              have hRW : Row (W.setCell ⟨w.heap.size, x.1.1 * 2 + 1, none⟩ (.int .i64 x.1.2.2.rc.seq)).drew.drew (some ⟨w.heap.size, 0, none⟩) (spv (spOf ((pre ++ [x]).map Subtype.val))) := (HROW.out _ hW).drew.drew
              clear hW HROW
              gi_wp2
              exact ⟨(((KeepsOthers.setCell _ _ _).trans (KeepsOthers.drew _)).trans (KeepsOthers.drew _)).from _, hBL, ⟨hBX, hRW⟩, hB1.trans hBL⟩
            · go_simp
              refine hK _ _ ?_
              clear hK K
              try simp only [Act.put, List.getElem_toArray, List.getElem_cons_zero, List.getElem_cons_succ, List.setIfInBounds_toArray, List.set_cons_zero, List.set_cons_succ]
              refine wpAny_ready (rs := [4]) (by kernel_rfl) (by simp) ?_
              refine AllReady.cons rfl (fun K hK => ?_) AllReady.nil
              go_simp
              refine hK _ _ ?_
              clear hK K
              try simp only [Act.put, List.getElem_toArray, List.getElem_cons_zero, List.getElem_cons_succ, List.setIfInBounds_toArray, List.set_cons_zero, List.set_cons_succ]
              refine wpAny_take (i := 8) (v := ?vb88x7) rfl (by kernel_rfl) (by kernel_rfl) (by kernel_rfl) (fun _ _ _ h => h) (Or.inl ⟨by rfl, ?yb88x7⟩) ?rb88x7
              case yb88x7 => (intro w'; (try go_simp); (try with_reducible rfl))
              try simp only [Act.put, List.getElem_toArray, List.getElem_cons_zero, List.getElem_cons_succ, List.setIfInBounds_toArray, List.set_cons_zero, List.set_cons_succ]
              refine wpAny_take (i := 9) (v := ?vb89x7) rfl (by kernel_rfl) (by kernel_rfl) (by kernel_rfl) (fun _ _ _ h => h) (Or.inl ⟨by rfl, ?yb89x7⟩) ?rb89x7
              case yb89x7 => (intro w'; (try go_simp); (try with_reducible rfl))
              try simp only [Act.put, List.getElem_toArray, List.getElem_cons_zero, List.getElem_cons_succ, List.setIfInBounds_toArray, List.set_cons_zero, List.set_cons_succ]
              refine wpAny_take (i := 10) (v := ?vb810x7) rfl (by kernel_rfl) (by kernel_rfl) (by kernel_rfl) (fun _ _ _ h => h) (Or.inl ⟨by rfl, ?yb810x7⟩) ?rb810x7
              case yb810x7 => (intro w'; (try go_simp); (try with_reducible rfl))
              try simp only [Act.put, List.getElem_toArray, List.getElem_cons_zero, List.getElem_cons_succ, List.setIfInBounds_toArray, List.set_cons_zero, List.set_cons_succ]
              refine wpAny_ready (rs := [11]) (by kernel_rfl) (by simp) ?_
              refine AllReady.cons rfl (fun K hK => ?_) AllReady.nil
              go_simp
              refine hK _ _ ?_
              clear hK K
              try simp only [Act.put, List.getElem_toArray, List.getElem_cons_zero, List.getElem_cons_succ, List.setIfInBounds_toArray, List.set_cons_zero, List.set_cons_succ]
              refine wpAny_done (by kernel_rfl) ?_ _
              simp only [OnlyNormal]
              have hW : Wrote W (W.setCell ⟨w.heap.size, x.1.1 * 2 + 1, none⟩ (.int .i64 x.1.2.2.rc.seq)) w.heap.size (x.1.1 * 2) (Spn (lowOf sp x.1.2.2.rc.seq, max sp.2 x.1.2.2.rc.seq)) := by
                rw [hlo.out, hmv.out]
                exact (wrote_one l1 (.int .i64 x.1.2.2.rc.seq)).less l0
              have hBL : Below w.heap.size W (W.setCell ⟨w.heap.size, x.1.1 * 2 + 1, none⟩ (.int .i64 x.1.2.2.rc.seq)).drew.drew := (((Below.refl w.heap.size W).setCell (p := ⟨w.heap.size, x.1.1 * 2 + 1, none⟩) (Nat.le_refl _) (.int .i64 x.1.2.2.rc.seq)).drew).drew
              have hBX : Boxed (W.setCell ⟨w.heap.size, x.1.1 * 2 + 1, none⟩ (.int .i64 x.1.2.2.rc.seq)).drew.drew (w.heap.size + 1) 141 (.slice (some ⟨w.heap.size, 0, none⟩) 4 4) := (hW.block (w.heap.size + 1) (by omega)).trans bV1
              have hRW : Row (W.setCell ⟨w.heap.size, x.1.1 * 2 + 1, none⟩ (.int .i64 x.1.2.2.rc.seq)).drew.drew (some ⟨w.heap.size, 0, none⟩) (spv (spOf ((pre ++ [x]).map Subtype.val))) := (HROW.out _ hW).drew.drew
              clear hW HROW
              gi_wp2
              exact ⟨(((KeepsOthers.setCell _ _ _).trans (KeepsOthers.drew _)).trans (KeepsOthers.drew _)).from _, hBL, ⟨hBX, hRW⟩, hB1.trans hBL⟩
          · have hmv : Hid (max sp.2 x.1.2.2.rc.seq = sp.2) := by unfold Hid; omega
            refine region_round (by kernel_rfl) (by kernel_rfl) ?_
            refine wpAny_take (i := 0) (v := ?vb90) rfl (by kernel_rfl) (by kernel_rfl) (by kernel_rfl) (fun _ _ _ h => h) (Or.inl ⟨by rfl, ?yb90⟩) ?rb90
            case yb90 => (intro w'; (try go_simp); (try with_reducible rfl))
            try simp only [Act.put, List.getElem_toArray, List.getElem_cons_zero, List.getElem_cons_succ, List.setIfInBounds_toArray, List.set_cons_zero, List.set_cons_succ]
            refine wpAny_take (i := 1) (v := ?vb91) rfl (by kernel_rfl) (by kernel_rfl) (by kernel_rfl) (fun _ _ _ h => h) (Or.inl ⟨by rfl, ?yb91⟩) ?rb91
            case yb91 => (intro w'; (try go_simp); (try with_reducible rfl))
            try simp only [Act.put, List.getElem_toArray, List.getElem_cons_zero, List.getElem_cons_succ, List.setIfInBounds_toArray, List.set_cons_zero, List.set_cons_succ]
            refine wpAny_take (i := 2) (v := ?vb92) rfl (by kernel_rfl) (by kernel_rfl) (by kernel_rfl) (fun _ _ _ h => h) (Or.inl ⟨by rfl, ?yb92⟩) ?rb92
            case yb92 => (intro w'; (try go_simp); (try with_reducible rfl))
            try simp only [Act.put, List.getElem_toArray, List.getElem_cons_zero, List.getElem_cons_succ, List.setIfInBounds_toArray, List.set_cons_zero, List.set_cons_succ]
            refine wpAny_take (i := 3) (v := ?vb93) rfl (by kernel_rfl) (by kernel_rfl) (by kernel_rfl) (fun _ _ _ h => h) (Or.inl ⟨by rfl, ?yb93⟩) ?rb93
            case yb93 => (intro w'; (try go_simp); (try with_reducible rfl))
            try simp only [Act.put, List.getElem_toArray, List.getElem_cons_zero, List.getElem_cons_succ, List.setIfInBounds_toArray, List.set_cons_zero, List.set_cons_succ]
            refine wpAny_take (i := 5) (v := ?vb95) rfl (by kernel_rfl) (by kernel_rfl) (by kernel_rfl) (fun _ _ _ h => h) (Or.inl ⟨by rfl, ?yb95⟩) ?rb95
            case yb95 => (intro w'; (try go_simp); (try with_reducible rfl))
            try simp only [Act.put, List.getElem_toArray, List.getElem_cons_zero, List.getElem_cons_succ, List.setIfInBounds_toArray, List.set_cons_zero, List.set_cons_succ]
            refine wpAny_take (i := 6) (v := ?vb96) rfl (by kernel_rfl) (by kernel_rfl) (by kernel_rfl) (fun _ _ _ h => h) (Or.inl ⟨by rfl, ?yb96⟩) ?rb96
            case yb96 => (intro w'; (try go_simp); (try with_reducible rfl))
            try simp only [Act.put, List.getElem_toArray, List.getElem_cons_zero, List.getElem_cons_succ, List.setIfInBounds_toArray, List.set_cons_zero, List.set_cons_succ]
            refine wpAny_ready (rs := [4, 7]) (by kernel_rfl) (by simp) ?_
            refine AllReady.cons rfl (fun K hK => ?_) (AllReady.cons rfl (fun K hK => ?_) AllReady.nil)
            · go_simp
              refine hK _ _ ?_
              clear hK K
              try simp only [Act.put, List.getElem_toArray, List.getElem_cons_zero, List.getElem_cons_succ, List.setIfInBounds_toArray, List.set_cons_zero, List.set_cons_succ]
              refine wpAny_ready (rs := [7]) (by kernel_rfl) (by simp) ?_
              refine AllReady.cons rfl (fun K hK => ?_) AllReady.nil
              go_simp
              refine hK _ _ ?_
              clear hK K
              try simp only [Act.put, List.getElem_toArray, List.getElem_cons_zero, List.getElem_cons_succ, List.setIfInBounds_toArray, List.set_cons_zero, List.set_cons_succ]
              refine wpAny_take (i := 8) (v := ?vb98x4) rfl (by kernel_rfl) (by kernel_rfl) (by kernel_rfl) (fun _ _ _ h => h) (Or.inl ⟨by rfl, ?yb98x4⟩) ?rb98x4
              case yb98x4 => (intro w'; (try go_simp); (try with_reducible rfl))
              try simp only [Act.put, List.getElem_toArray, List.getElem_cons_zero, List.getElem_cons_succ, List.setIfInBounds_toArray, List.set_cons_zero, List.set_cons_succ]
              refine wpAny_take (i := 9) (v := ?vb99x4) rfl (by kernel_rfl) (by kernel_rfl) (by kernel_rfl) (fun _ _ _ h => h) (Or.inl ⟨by rfl, ?yb99x4⟩) ?rb99x4
              case yb99x4 => (intro w'; (try go_simp); (try with_reducible rfl))
              try simp only [Act.put, List.getElem_toArray, List.getElem_cons_zero, List.getElem_cons_succ, List.setIfInBounds_toArray, List.set_cons_zero, List.set_cons_succ]
              refine wpAny_take (i := 10) (v := ?vb910x4) rfl (by kernel_rfl) (by kernel_rfl) (by kernel_rfl) (fun _ _ _ h => h) (Or.inl ⟨by rfl, ?yb910x4⟩) ?rb910x4
              case yb910x4 => (intro w'; (try go_simp); (try with_reducible rfl))
              try simp only [Act.put, List.getElem_toArray, List.getElem_cons_zero, List.getElem_cons_succ, List.setIfInBounds_toArray, List.set_cons_zero, List.set_cons_succ]
              refine wpAny_ready (rs := [11]) (by kernel_rfl) (by simp) ?_
              refine AllReady.cons rfl (fun K hK => ?_) AllReady.nil
              go_simp
              refine hK _ _ ?_
              clear hK K
              try simp only [Act.put, List.getElem_toArray, List.getElem_cons_zero, List.getElem_cons_succ, List.setIfInBounds_toArray, List.set_cons_zero, List.set_cons_succ]
              refine wpAny_done (by kernel_rfl) ?_ _
              simp only [OnlyNormal]
              have hW : Wrote W (W.setCell ⟨w.heap.size, x.1.1 * 2 + 1, none⟩ (.int .i64 sp.2)) w.heap.size (x.1.1 * 2) (Spn (lowOf sp x.1.2.2.rc.seq, max sp.2 x.1.2.2.rc.seq)) := by
                rw [hlo.out, hmv.out]
                exact (wrote_one l1 (.int .i64 sp.2)).less l0
              have hBL : Below w.heap.size W (W.setCell ⟨w.heap.size, x.1.1 * 2 + 1, none⟩ (.int .i64 sp.2)).drew.drew := (((Below.refl w.heap.size W).setCell (p := ⟨w.heap.size, x.1.1 * 2 + 1, none⟩) (Nat.le_refl _) (.int .i64 sp.2)).drew).drew
              have hBX : Boxed (W.setCell ⟨w.heap.size, x.1.1 * 2 + 1, none⟩ (.int .i64 sp.2)).drew.drew (w.heap.size + 1) 141 (.slice (some ⟨w.heap.size, 0, none⟩) 4 4) := (hW.block (w.heap.size + 1) (by omega)).trans bV1
              have hRW : Row (W.setCell ⟨w.heap.size, x.1.1 * 2 + 1, none⟩ (.int .i64 sp.2)).drew.drew (some ⟨w.heap.size, 0, none⟩) (spv (spOf ((pre ++ [x]).map Subtype.val))) := (HROW.out _ hW).drew.drew
              clear hW HROW
              gi_wp2
              exact ⟨(((KeepsOthers.setCell _ _ _).trans (KeepsOthers.drew _)).trans (KeepsOthers.drew _)).from _, hBL, ⟨hBX, hRW⟩, hB1.trans hBL⟩
            · go_simp
              refine hK _ _ ?_
              clear hK K
              try simp only [Act.put, List.getElem_toArray, List.getElem_cons_zero, List.getElem_cons_succ, List.setIfInBounds_toArray, List.set_cons_zero, List.set_cons_succ]
              refine wpAny_ready (rs := [4]) (by kernel_rfl) (by simp) ?_
              refine AllReady.cons rfl (fun K hK => ?_) AllReady.nil
              go_simp
              refine hK _ _ ?_
              clear hK K
              try simp only [Act.put, List.getElem_toArray, List.getElem_cons_zero, List.getElem_cons_succ, List.setIfInBounds_toArray, List.set_cons_zero, List.set_cons_succ]
              refine wpAny_take (i := 8) (v := ?vb98x7) rfl (by kernel_rfl) (by kernel_rfl) (by kernel_rfl) (fun _ _ _ h => h) (Or.inl ⟨by rfl, ?yb98x7⟩) ?rb98x7
              case yb98x7 => (intro w'; (try go_simp); (try with_reducible rfl))
              try simp only [Act.put, List.getElem_toArray, List.getElem_cons_zero, List.getElem_cons_succ, List.setIfInBounds_toArray, List.set_cons_zero, List.set_cons_succ]
              refine wpAny_take (i := 9) (v := ?vb99x7) rfl (by kernel_rfl) (by kernel_rfl) (by kernel_rfl) (fun _ _ _ h => h) (Or.inl ⟨by rfl, ?yb99x7⟩) ?rb99x7
              case yb99x7 => (intro w'; (try go_simp); (try with_reducible rfl))
              try simp only [Act.put, List.getElem_toArray, List.getElem_cons_zero, List.getElem_cons_succ, List.setIfInBounds_toArray, List.set_cons_zero, List.set_cons_succ]
              refine wpAny_take (i := 10) (v := ?vb910x7) rfl (by kernel_rfl) (by kernel_rfl) (by kernel_rfl) (fun _ _ _ h => h) (Or.inl ⟨by rfl, ?yb910x7⟩) ?rb910x7
              case yb910x7 => (intro w'; (try go_simp); (try with_reducible rfl))
              try simp only [Act.put, List.getElem_toArray, List.getElem_cons_zero, List.getElem_cons_succ, List.setIfInBounds_toArray, List.set_cons_zero, List.set_cons_succ]
              refine wpAny_ready (rs := [11]) (by kernel_rfl) (by simp) ?_
              refine AllReady.cons rfl (fun K hK => ?_) AllReady.nil
              go_simp
              refine hK _ _ ?_
              clear hK K
              try simp only [Act.put, List.getElem_toArray, List.getElem_cons_zero, List.getElem_cons_succ, List.setIfInBounds_toArray, List.set_cons_zero, List.set_cons_succ]
              refine wpAny_done (by kernel_rfl) ?_ _
              simp only [OnlyNormal]
              have hW : Wrote W (W.setCell ⟨w.heap.size, x.1.1 * 2 + 1, none⟩ (.int .i64 sp.2)) w.heap.size (x.1.1 * 2) (Spn (lowOf sp x.1.2.2.rc.seq, max sp.2 x.1.2.2.rc.seq)) := by
                rw [hlo.out, hmv.out]
                exact (wrote_one l1 (.int .i64 sp.2)).less l0
              have hBL : Below w.heap.size W (W.setCell ⟨w.heap.size, x.1.1 * 2 + 1, none⟩ (.int .i64 sp.2)).drew.drew := (((Below.refl w.heap.size W).setCell (p := ⟨w.heap.size, x.1.1 * 2 + 1, none⟩) (Nat.le_refl _) (.int .i64 sp.2)).drew).drew
              have hBX : Boxed (W.setCell ⟨w.heap.size, x.1.1 * 2 + 1, none⟩ (.int .i64 sp.2)).drew.drew (w.heap.size + 1) 141 (.slice (some ⟨w.heap.size, 0, none⟩) 4 4) := (hW.block (w.heap.size + 1) (by omega)).trans bV1
              have hRW : Row (W.setCell ⟨w.heap.size, x.1.1 * 2 + 1, none⟩ (.int .i64 sp.2)).drew.drew (some ⟨w.heap.size, 0, none⟩) (spv (spOf ((pre ++ [x]).map Subtype.val))) := (HROW.out _ hW).drew.drew
              clear hW HROW
              gi_wp2
              exact ⟨(((KeepsOthers.setCell _ _ _).trans (KeepsOthers.drew _)).trans (KeepsOthers.drew _)).from _, hBL, ⟨hBX, hRW⟩, hB1.trans hBL⟩
    · have h1' : (x.1.2.2.state != 1) = true := by simpa using h1
      gi_wp2
      exact ⟨KeepsFrom.refl _ _, Below.refl _ _, ⟨bV1, by rw [hst.out]; unfold spStep; rw [if_neg h1]; exact hR1⟩, hB1⟩
  case done =>
    rintro D ys W hD hys ⟨⟨bV1, hR1⟩, hB1⟩ hK
    have cV := bV1.cell
    gi_wp2
    refine ⟨by simp, .inl ⟨_, _, rfl, run_takeDeferred hK, ?_⟩⟩
    refine ⟨_, results_tmp rfl _ _ _, w.heap.size, rfl, Nat.le_refl _, ?_, hB1.trans (belowK_b (w := w) (Nat.le_refl _) W D _ _ (by omega) hK rfl rfl)⟩
    rw [← hys]
    exact row_own _ _ w.heap.size () W _ (some D) hR1 (grownBy_putObj' W D _) (fun r e => by cases e; exact ⟨by omega, _, hK, rfl⟩)
  case stop =>
    rintro D c pre W _ _ h _
    exact h.elim
end Go.Proofs.Ytbekihiiildgmaa
