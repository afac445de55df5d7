/- What the laws' walks share: words, plain laws, and the walks of functions, part 9. -/
import Derived.Deep.RegionHeld3
import Derived.Below
import Derived.ChangeSame
import Derived.WalkKit
import Derived.ProofKit
import Derived.Carry
import Derived.Conc.LeavingOf
import Derived.Test.YtclnogfmmekooaaGreatProg
import Derived.Deep.Slices
import Derived.ChangeSlices
import Derived.ChangeArms
import Derived.Test.YtclnogfmmekooaaGreatZ8
set_option linter.unusedVariables false
set_option linter.unusedSimpArgs false
set_option maxHeartbeats 16000000
set_option maxRecDepth 100000
open Go.RowKit Go.IntWalk Go.Maps
namespace Go.Proofs.YtclnogfmmekooaaGreat
section
def Zx (w : World) (lo ob : Nat) (t : St) : Prop :=
 ∃ A c D d hs, w.cell? ⟨ob, 0, none⟩ = some (.slice A 4 c) ∧ w.cell? ⟨ob, 1, none⟩ = some (.slice D 6 d) ∧ w.frozen? ⟨ob, 0, none⟩ = false ∧ w.frozen? ⟨ob, 1, none⟩ = false ∧ (∃ h, Apt lo h A hs ∧ h ≤ w.heap.size) ∧ Bks w A t.flash hs ∧ (∀ b, fblk A hs b -> lo ≤ b ∧ b ≠ ob) ∧ Row w D (ints t.disk) ∧ ∀ b, blk D b -> lo ≤ b ∧ b ≠ ob ∧ ¬ fblk A hs b
theorem Zx.below {w w' : World} {lo ob B : Nat} {t : St} (h : Zx w lo ob t) (hb : Below B w w') (hB : w.heap.size ≤ B) : Zx w' lo ob t := by
 obtain ⟨A, c, D, d, hs, o0, o1, f0, f1, ⟨hi, ha, hle⟩, hBk, h1, hD, h2⟩ := h
 have hob := ze o0
 exact ⟨A, c, D, d, hs, (hb.cell (p := ⟨ob, 0, none⟩) (by show ob < B; omega)).trans o0, (hb.cell (p := ⟨ob, 1, none⟩) (by show ob < B; omega)).trans o1, (hb.frozen (p := ⟨ob, 0, none⟩) (by show ob < B; omega)).trans f0, (hb.frozen (p := ⟨ob, 1, none⟩) (by show ob < B; omega)).trans f1, ⟨hi, ha, Nat.le_trans hle hb.size⟩, hBk.below hb hB, h1, hD.below hb hB, h2⟩
theorem Zx.alloc {w : World} {lo ob : Nat} {t : St} (h : Zx w lo ob t) (o : Obj) : Zx (w.alloc o) lo ob t := h.below (B := w.heap.size) ((Below.refl _ _).alloc nl _) nl
theorem OSt.flAt0 {w : World} {lo hi : Nat} {A D : Option Addr} {f : List Bk} {xs : List Int} (h : OSt w lo hi A f D xs) : FlAt w lo A f := by obtain ⟨hs, h1, h2, _⟩ := h; exact ⟨hs, h1, fun b hb => (h2.fblk hb).1⟩
theorem OSt.dlo {w : World} {lo hi : Nat} {A D : Option Addr} {f : List Bk} {xs : List Int} (h : OSt w lo hi A f D xs) : ∀ b, blk D b -> lo ≤ b := by obtain ⟨hs, _, _, _, h4⟩ := h; exact fun b hb => (h4 b hb).1
theorem Zx.put {w w' : World} {lo ob : Nat} {t t' : St} {A D : Option Addr} {c d : Nat} (h : Zx w lo ob t) (hO : OSt w (ob + 1) w.heap.size A t'.flash D t'.disk) (hl : lo ≤ ob) (hw : w' = (w.setCell ⟨ob, 0, none⟩ (.slice A 4 c)).setCell ⟨ob, 1, none⟩ (.slice D 6 d)) : Zx w' lo ob t' := by
 obtain ⟨_, _, _, _, _, o0, o1, f0, f1, _⟩ := h
 obtain ⟨hs, hBk, hApt, hD, hdb⟩ := hO
 have hlo : ∀ b, fblk A hs b -> ob + 1 ≤ b := fun b hb => (hApt.fblk hb).1
 have hd : ∀ b, blk D b -> ob + 1 ≤ b := fun b hb => (hdb b hb).1
 have hW : xr w w' ob 0 [.slice A 4 c, .slice D 6 d] := by
  rw [hw]
  exact zn ob [.slice A 4 c, .slice D 6 d] 0 w (fun j hj => by
   match j, hj with
   | 0, _ => exact ⟨_, o0⟩
   | 1, _ => exact ⟨_, o1⟩)
 refine ⟨A, c, D, d, hs, hW.new_ 0 _ rfl, hW.new_ 1 _ rfl, (hW.frozen _).trans f0, (hW.frozen _).trans f1, ⟨_, hApt.mono (by omega) nl, by rw [hW.size]; exact Nat.le_refl _⟩, hBk.keep fun b hb hl => hW.block b ?_, fun b hb => (by have := hlo b hb; exact ⟨by omega, by omega⟩), hD.keep fun b hb hl => hW.block b (by have := hd b hb; omega), fun b hb => (by have := hd b hb; exact ⟨by omega, by omega, fun hf => hf.elim (fun e => (hdb b hb).2.2.1 e) (fun ⟨i, x, hx, e⟩ => (hdb b hb).2.2.2 i x hx e)⟩)⟩
 have hf : fblk A hs b := by
  rcases hb with hy | ⟨z, hz, hy⟩
  . exact .inl hy
  . obtain ⟨j, hj⟩ := List.getElem?_of_mem hz
    exact .inr ⟨j, z, hj, hy⟩
 have := hlo b hf
 omega
theorem zmm {w : World} {lo ob : Nat} {t : St} {A D : Option Addr} {c d : Nat} (h : Zx w lo ob t) : ((w.setCell ⟨ob, 0, none⟩ (.slice A 4 c)).setCell ⟨ob, 1, none⟩ (.slice D 6 d)).cell? ⟨ob, 0, none⟩ = some (.slice A 4 c) ∧ ((w.setCell ⟨ob, 0, none⟩ (.slice A 4 c)).setCell ⟨ob, 1, none⟩ (.slice D 6 d)).cell? ⟨ob, 1, none⟩ = some (.slice D 6 d) ∧
 ((w.setCell ⟨ob, 0, none⟩ (.slice A 4 c)).setCell ⟨ob, 1, none⟩ (.slice D 6 d)).frozen? ⟨ob, 0, none⟩ = false ∧ ((w.setCell ⟨ob, 0, none⟩ (.slice A 4 c)).setCell ⟨ob, 1, none⟩ (.slice D 6 d)).frozen? ⟨ob, 1, none⟩ = false := by
 obtain ⟨_, _, _, _, _, o0, o1, f0, f1, _⟩ := h
 have hW : xr w ((w.setCell ⟨ob, 0, none⟩ (.slice A 4 c)).setCell ⟨ob, 1, none⟩ (.slice D 6 d)) ob 0 [.slice A 4 c, .slice D 6 d] :=
  zn ob [.slice A 4 c, .slice D 6 d] 0 w (fun j hj => by
   match j, hj with
   | 0, _ => exact ⟨_, o0⟩
   | 1, _ => exact ⟨_, o1⟩)
 exact ⟨hW.new_ 0 _ rfl, hW.new_ 1 _ rfl, (hW.frozen _).trans f0, (hW.frozen _).trans f1⟩
theorem Zx.of {w : World} {lo ob : Nat} {t : St} {A D : Option Addr} {c d : Nat} (o0 : w.cell? ⟨ob, 0, none⟩ = some (.slice A 4 c)) (o1 : w.cell? ⟨ob, 1, none⟩ = some (.slice D 6 d)) (f0 : w.frozen? ⟨ob, 0, none⟩ = false) (f1 : w.frozen? ⟨ob, 1, none⟩ = false) (hO : OSt w (ob + 1) w.heap.size A t.flash D t.disk) (hl : lo ≤ ob) : Zx w lo ob t := by
 obtain ⟨hs, hBk, hApt, hD, hdb⟩ := hO
 exact ⟨A, c, D, d, hs, o0, o1, f0, f1, ⟨_, hApt.mono (by omega) nl, Nat.le_refl _⟩, hBk, fun b hb => (by have := (hApt.fblk hb).1; exact ⟨by omega, by omega⟩), hD, fun b hb => (by have := (hdb b hb).1; exact ⟨by omega, by omega, fun hf => hf.elim (fun e => (hdb b hb).2.2.1 e) (fun ⟨i, x, hx, e⟩ => (hdb b hb).2.2.2 i x hx e)⟩)⟩
theorem FlAt.keep {w w' : World} {lo : Nat} {A : Option Addr} {f : List Bk} (h : FlAt w lo A f) (hk : ∀ b, lo ≤ b -> b < w.heap.size -> w'.heap[b]? = w.heap[b]?) : FlAt w' lo A f := by
 obtain ⟨hs, hBk, hlo⟩ := h
 refine ⟨hs, hBk.keep fun b hb hl => hk b (hlo b ?_) hl, hlo⟩
 rcases hb with hy | ⟨z, hz, hy⟩
 . exact .inl hy
 . obtain ⟨j, hj⟩ := List.getElem?_of_mem hz
   exact .inr ⟨j, z, hj, hy⟩
theorem Zx.new {w : World} {lo c d : Nat} {A D : Option Addr} {t : St} (hO : OSt w lo w.heap.size A t.flash D t.disk) : Zx (w.alloc (.cells #[.slice A 4 c, .slice D 6 d] 28)) lo w.heap.size t := by
 obtain ⟨hs, hBk, hApt, hD, hdb⟩ := hO
 exact ⟨A, c, D, d, hs, by simp, by simp, by simp, by simp, ⟨_, hApt, by simp⟩, hBk.alloc _, fun b hb => (by have := hApt.fblk hb; exact ⟨by omega, by omega⟩), hD.alloc _, fun b hb => (by have := hdb b hb; exact ⟨this.1, by omega, fun hf => hf.elim (fun e => (hdb b hb).2.2.1 e) (fun ⟨i, x, hx, e⟩ => (hdb b hb).2.2.2 i x hx e)⟩)⟩
theorem Qi {s : St} (h : Okay s) : ∀ k, k ≤ 6 -> Okay (upto s k)
 | 0, _ => h
 | k + 1, hk => (K4 (Qi h k (by omega)) (a := (k : Int) + 1) (by omega)).ok
theorem Qu {P : Program} (t ty elem : TypeId) (i : TypeInfo) (A B : Option Addr) (n c cb : Nat) (hu : P.underlying t = some (.slice elem)) (hi : P.info? elem = some i) (hc : n ≤ c) (w : World) :
 (Builtin.append_ #[t, t] ty #[.slice A n c, .slice B 0 cb]).run P w = .ok (.slice A n c) w := by
 have hf : (Builtin.firstCells i.size 0 (.slice B 0 cb)).run P w = .ok #[] w := by
  cases B with
  | none => simp [Builtin.firstCells]
  | some b => simp [Builtin.firstCells, loadCells, loadCellsFrom]
 cases A with
 | none => simp [Builtin.append_, run_underlying hu, sizeOf, typeInfo, hi, Builtin.lenOf, hc, hf]
 | some a => simp [Builtin.append_, run_underlying hu, sizeOf, typeInfo, hi, Builtin.lenOf, hc, hf, storeCells]
theorem Za {P : Program} {w : World} {ops : Array Oper} {rest : List Oper} {o : Oper} {a : Act} {Q : Exit -> Act -> World -> Prop} (hgd : o.guard = none) (s x : Operand) (t elem : TypeId) (ho : o.op = .call { callee := .builtin .append, args := #[s, x], argTypes := #[t, t] })
 (i : TypeInfo) (A B : Option Addr) (n c cb : Nat) (hu : P.underlying t = some (.slice elem)) (hi : P.info? elem = some i) (hs : a.eval s = .slice A n c) (hx : a.eval x = .slice B 0 cb) (hc : n ≤ c) (h : wpList P ops Q rest (a.put o.dst (.slice A n c)) w) : wpList P ops Q (o :: rest) a w := by
 refine wpList_plain hgd fun K hK => ?_
 have hrun := Qu (P := P) t o.type elem i A B n c cb hu hi hc w
 unfold Oper.wp execOp
 simp only [ho, resolve, invoke, builtin, Sem.run_bind, Sem.run_pure, Result.andThen_ok, List.map_toArray, List.map_cons, List.map_nil, hs, hx, hrun]
 exact hK _ _ h
def zmq (t : St) (w : World) (e : Ending) (w' : World) : Prop :=
 ∃ A c D d v, e = .returned (.tuple #[.agg #[.slice A 4 c, .slice D 6 d], v]) ∧ FlAt w' w.heap.size A t.flash ∧ Row w' D (ints t.disk) ∧ (∀ b, blk D b -> w.heap.size ≤ b) ∧ Below w.heap.size w w'
def Zj (t : St) (w : World) (e : Ending) (w' : World) : Prop :=
 ∃ A c D d v, e = .returned (.tuple #[.agg #[.slice A 4 c, .slice D 6 d], v]) ∧ OSt w' w.heap.size w'.heap.size A t.flash D t.disk ∧ Below w.heap.size w w'
theorem Zj.post {t : St} {w w' : World} {e : Ending} (h : Zj t w e w') : zmq t w e w' := by
 obtain ⟨A, c, D, d, v, rfl, hO, hb⟩ := h
 exact ⟨A, c, D, d, v, rfl, hO.flAt0, hO.disk, hO.dlo, hb⟩
theorem zhd {t : St} (h : Okay t) (a : Int) : toR t (kg t a) (kg t a).length false = (kt t a, true) := by
 have hb : allB (kg t a) = true := zbh h ⟨2, a, 0, 0, false⟩
 unfold toR
 rw [if_neg (by rintro (e | e | e); omega; rw [xx.2 h] at e; cases e; rw [hb] at e; cases e)]
 rfl
theorem zbs {t : St} (h : Okay t) (xs : List Sp) : x9 t xs = xs := by unfold x9; rw [if_pos (xx.2 h)]
theorem FlAt.below {w w' : World} {lo lo' B : Nat} {A : Option Addr} {f : List Bk} (h : FlAt w lo A f) (hb : Below B w w') (hB : w.heap.size ≤ B) (hl : lo' ≤ lo) : FlAt w' lo' A f := by
 obtain ⟨hs, h1, h2⟩ := h
 exact ⟨hs, h1.below hb hB, fun b hb => Nat.le_trans hl (h2 b hb)⟩
theorem Row.lo {w : World} {A : Option Addr} {vs : List Value} (h : Row w A vs) (hn : vs ≠ []) : ∀ b, blk A b -> b < w.heap.size := fun b hb => h.lt hn hb
theorem Y1 (s : St) (A D : Option Addr) (c d : Nat) (w : World) (hs : Okay s) (hF : Fl w A s.flash) (hD : Row w D (ints s.disk)) :
 Calls Tryz.prog 83 #[.agg #[.slice A 4 c, .slice D 6 d]] w (Zj (j4 s) w) := by
 obtain ⟨ib, hib, hbz0, hbz1, hbz2⟩ := info_parts Tryz.info3_step
 have hB0 : Below w.heap.size w ((w.alloc (.cells #[.slice A 4 c, .slice D 6 d] 28)).alloc (.cells #[.slice none 0 0, .slice none 0 0] 28)) := bw
 have HSC := Lib.hid (Zm s A D c d _ hs.fine (hF.below hB0 nl) (hD.below hB0 nl))
 have HS := Lib.hid hs
 clear hs hF hD
 go_enter Tryz.func83, Tryz.ntmps83
 go_wp2_with fail
 with_reducible refine HSC.out.mono ?_
 rintro e w1 ⟨g0, d0, rfl, hO, hb1⟩
 have hs1 : w.heap.size + 2 ≤ w1.heap.size := by have := hb1.size; simpa using this
 have hB1 : Below w.heap.size w w1 := hB0.trans (hb1.mono (by simp; omega))
 obtain ⟨hc1, hf1⟩ := jr hb1
 have r0 : w1.cell? ⟨w.heap.size + 1, 0, none⟩ = some (.slice none 0 0) := (hc1 _ _ (by simp)).trans (by simp)
 have r1 : w1.cell? ⟨w.heap.size + 1, 1, none⟩ = some (.slice none 0 0) := (hc1 _ _ (by simp)).trans (by simp)
 have q0 : w1.frozen? ⟨w.heap.size + 1, 0, none⟩ = false := (hf1 _ _ (by simp)).trans (by simp)
 have q1 : w1.frozen? ⟨w.heap.size + 1, 1, none⟩ = false := (hf1 _ _ (by simp)).trans (by simp)
 have hbx := Zx.new (c := 4) (d := 6) (t := s) (lo := w.heap.size + 2) (hO.mono (by simp) nl)
 clear HSC hO hb1 hc1 hf1 hB0
 go_wp2
 go_loopw [5, 6] (fun u q wr => ∃ (k : Nat) (ys : List Sp) (v : Value), k ≤ 6 ∧ q = .int .i64 (k + 1) ∧ v = u ∧ ys.length ≤ 7 * k ∧ OwnS wr (w1.heap.size + 1) v ys ∧ Zx wr (w.heap.size + 2) w1.heap.size (upto s k) ∧ Below w1.heap.size w1 wr ∧ w1.heap.size < wr.heap.size) (fun _ q _ => 7 - (intOf q).toNat)
 case atStart => exact ⟨0, [], _, by omega, rfl, rfl, by simp, OwnS.nul _ _, hbx, bw, by simp⟩
 case round =>
  obtain ⟨k, ys, v, hk, rfl, rfl, hyl, hO, hX, hB, hz⟩ := hrel
  clear hbx
  have hBW := hB1.trans (hB.mono hB1.size)
  have rr0 := (hB.cell (p := ⟨w.heap.size + 1, 0, none⟩) (by show w.heap.size + 1 < _; omega)).trans r0
  have rr1 := (hB.cell (p := ⟨w.heap.size + 1, 1, none⟩) (by show w.heap.size + 1 < _; omega)).trans r1
  have qq0 := (hB.frozen (p := ⟨w.heap.size + 1, 0, none⟩) (by show w.heap.size + 1 < _; omega)).trans q0
  have qq1 := (hB.frozen (p := ⟨w.heap.size + 1, 1, none⟩) (by show w.heap.size + 1 < _; omega)).trans q1
  have hbs := hB.size
  have hOk := Qi HS.out k hk
  have HX := Lib.hid hX
  obtain ⟨Ao, co, Do, dd, hso, o0, o1, f0, f1, _, hBk, _, hDo, _⟩ := hX
  by_cases hlt : k < 6
  . have hk1 : (k : Int) + 1 ≤ 6 := by omega
    have hn4 : 4 = (upto s k).flash.length := (zf hOk.flash).symm
    have hm6 : 6 = (upto s k).disk.length := hOk.len.symm
    have HFLU := Lib.hid (Xw (upto s k) (k + 1) Ao Do 4 6 co dd wr hn4 hm6 ⟨hso, hBk⟩ hDo)
    rw [zbs hOk] at HFLU
    have hfl := zam hOk.fine (k + 1)
    have hwh := Lib.hid (zhd hOk (k + 1))
    have hup : Hid (kt (upto s k) (k + 1) = upto s (k + 1)) := rfl
    have HOK := Lib.hid hOk
    have HN4 := Lib.hid hn4
    have HM6 := Lib.hid hm6
    have HBK := Lib.hid hBk
    have HDO := Lib.hid hDo
    have e1 : IntKind.i64.wrap ((k : Int) + 1 + 1) = (k : Int) + 1 + 1 := IntWalk.i64_in _ (by omega)
    clear hn4 hm6 hOk hBk hDo
    go_wp2_with fail
    with_reducible refine HFLU.out.mono ?_
    rintro e w2 ⟨v2, rfl, hO2, hb2⟩
    generalize kg (upto s k) (k + 1) = xs at *
    obtain ⟨V, cs, rfl, hcs, hRow, hblk⟩ := hO2.shape
    have hs2 := hb2.size
    have hX2 := HX.out.below hb2 nl
    have hOv := hO.below hb2 nl
    have hB2 := hB.trans (hb2.mono hbs)
    replace o0 := (hb2.cell (p := ⟨w1.heap.size, 0, none⟩) hz).trans o0
    replace o1 := (hb2.cell (p := ⟨w1.heap.size, 1, none⟩) hz).trans o1
    have HTO := Lib.hid (Xi (upto s k) xs xs.length false Ao Do V 4 6 co dd cs w2 HN4.out HM6.out (by omega) (Fl.below ⟨hso, HBK.out⟩ hb2 nl) (HDO.out.below hb2 nl) hRow)
    rw [hwh.out, hup.out] at HTO
    clear HFLU hwh hb2 hO HX
    go_wp2_with fail
    with_reducible refine HTO.out.mono ?_
    rintro e w3 ⟨A3, c3, D3, d3, rfl, hOO, hb3⟩
    have hF3 := hOO.flAt0
    have hD3 := hOO.disk
    have hl3 := hOO.dlo
    have hOk3 := Qi HS.out (k + 1) (by omega)
    dsimp only at hF3 hD3 hOO
    rw [show ((upto s (k + 1), true) : St × Bool).1.flash.length = 4 from zf hOk3.flash, show ((upto s (k + 1), true) : St × Bool).1.disk.length = 6 from hOk3.len]
    have hs3 := hb3.size
    have hX3 := hX2.below hb3 nl
    have hO3 := hOv.below hb3 nl
    have hRow3 := hRow.below hb3 nl
    have hB3 := hB2.trans (hb3.mono (by omega))
    have hF4 : FlAt w3 (w1.heap.size + 1) A3 (upto s (k + 1)).flash := hF3.below (Below.refl w3.heap.size _) nl (by omega)
    have hX5 := Lib.hid ((hX3.put (c := c3) (d := d3) (hOO.mono (by omega) nl) (by omega) rfl).alloc (.cells #[.slice A3 4 c3, .slice D3 6 d3] 28))
    have hX3' := hX3
    obtain ⟨_, _, _, _, _, p0, p1, p2, p3, _⟩ := hX3'
    have hO4 : OwnS (((w3.setCell ⟨w1.heap.size, 0, none⟩ (.slice A3 4 c3)).setCell ⟨w1.heap.size, 1, none⟩ (.slice D3 6 d3)).alloc (.cells #[.slice A3 4 c3, .slice D3 6 d3] 28)) (w1.heap.size + 1) v ys := World.ownsRow.alloc (ownsRow_setCell_other (a := ⟨w1.heap.size, 1, none⟩) (ownsRow_setCell_other (a := ⟨w1.heap.size, 0, none⟩) hO3 (fun e => by have := (World.ownsRow.lt hO3 _ e).1; dsimp only at this; omega) (.slice A3 4 c3)) (fun e => by have := (World.ownsRow.lt hO3 _ e).1; dsimp only at this; omega) (.slice D3 6 d3)) _
    have hB5 : Below w1.heap.size w1 (((w3.setCell ⟨w1.heap.size, 0, none⟩ (.slice A3 4 c3)).setCell ⟨w1.heap.size, 1, none⟩ (.slice D3 6 d3)).alloc (.cells #[.slice A3 4 c3, .slice D3 6 d3] 28)) := ((hB3.setCell (p := ⟨w1.heap.size, 0, none⟩) nl _).setCell (p := ⟨w1.heap.size, 1, none⟩) nl _).alloc (by simp; omega) _
    have hz3 : w1.heap.size < w3.heap.size := by omega
    have hobv : ∀ q, v.ownBlock = some q -> q < w2.heap.size := fun q e => (World.ownsRow.lt hOv q e).2
    have hbc := Lib.hid (zmm (A := A3) (D := D3) (c := c3) (d := d3) hX3)
    have hF5 : FlAt (((w3.setCell ⟨w1.heap.size, 0, none⟩ (.slice A3 4 c3)).setCell ⟨w1.heap.size, 1, none⟩ (.slice D3 6 d3)).alloc (.cells #[.slice A3 4 c3, .slice D3 6 d3] 28)) w2.heap.size A3 (upto s (k + 1)).flash := hF3.keep fun b hb hl => by
     rw [Below.heap_alloc _ _ _ (by simpa using hl), Below.heap_setCell _ _ _ _ (show b ≠ w1.heap.size by omega), Below.heap_setCell _ _ _ _ (show b ≠ w1.heap.size by omega)]
    have hD5 : Row (((w3.setCell ⟨w1.heap.size, 0, none⟩ (.slice A3 4 c3)).setCell ⟨w1.heap.size, 1, none⟩ (.slice D3 6 d3)).alloc (.cells #[.slice A3 4 c3, .slice D3 6 d3] 28)) D3 (ints (upto s (k + 1)).disk) := hD3.keep fun b hb hl => by
     have := hl3 b hb
     rw [Below.heap_alloc _ _ _ (by simpa using hl), Below.heap_setCell _ _ _ _ (show b ≠ w1.heap.size by omega), Below.heap_setCell _ _ _ _ (show b ≠ w1.heap.size by omega)]
    have HOO5 : Hid (OSt (((w3.setCell ⟨w1.heap.size, 0, none⟩ (.slice A3 4 c3)).setCell ⟨w1.heap.size, 1, none⟩ (.slice D3 6 d3)).alloc (.cells #[.slice A3 4 c3, .slice D3 6 d3] 28)) w2.heap.size w3.heap.size A3 (upto s (k + 1)).flash D3 (upto s (k + 1)).disk) := hOO.keep fun b hb _ hl => by
     rw [Below.heap_alloc _ _ _ (by simpa using hl), Below.heap_setCell _ _ _ _ (show b ≠ w1.heap.size by omega), Below.heap_setCell _ _ _ _ (show b ≠ w1.heap.size by omega)]
    have HL3 := Lib.hid hl3
    have HF5 := Lib.hid hF5
    have HD5 := Lib.hid hD5
    clear hF5 hD5
    have hnb : ∀ q, v.ownBlock = some q -> w1.heap.size + 1 ≤ q := fun q e => (World.ownsRow.lt hO3 q e).1
    by_cases hx : xs = []
    . subst hx
      obtain ⟨Av, cv, hv, hcv, _⟩ := OwnS.shape hO3
      subst hv
      clear hF3 hF4 hD3 hl3 hX3 hRow3 hO3 hblk hnb hOO
      dsimp only
      have HCV := Lib.hid hcv
      go_wp2_with (at_builtin; refine Za rfl (.tmp 29) (.tmp 30) 39 81 rfl ib Av V ys.length cv cs Tryz.underlying39 hib rfl rfl HCV.out ?_)
      go_roundw
      case rel => exact ⟨k + 1, ys, _, by omega, by go_num, rfl, by omega, hO4, hX5.out, hB5, by simp; omega⟩
      case measure => simp [intOf]; omega
    . have hlen : 0 < xs.length := List.length_pos_iff.2 hx
      obtain ⟨vb, vo, rfl⟩ := hRow3.addr (by intro e; have := Zl xs; rw [e] at this; simp at this; omega)
      have hvb := hblk vb (zg.2 rfl)
      have hRow5 : Row (((w3.setCell ⟨w1.heap.size, 0, none⟩ (.slice A3 4 c3)).setCell ⟨w1.heap.size, 1, none⟩ (.slice D3 6 d3)).alloc (.cells #[.slice A3 4 c3, .slice D3 6 d3] 28)) (some ⟨vb, vo, none⟩) (sps xs) := Row.alloc (hRow3.keep fun b hb _ => by
       rw [zg] at hb
       subst hb
       rw [Below.heap_setCell _ _ _ _ (show vb ≠ w1.heap.size by omega), Below.heap_setCell _ _ _ _ (show vb ≠ w1.heap.size by omega)]) _
      clear hF3 hF4 hD3 hl3 hX3 hRow3 hO3 hblk hOO
      have hA2 : ys.length + xs.length ≤ maxLen := by unfold maxLen; omega
      have hA3 : (ys.length + xs.length) * 64 ≤ 140737488355328 := by omega
      have hA4 : w1.heap.size + 1 ≤ (((w3.setCell ⟨w1.heap.size, 0, none⟩ (.slice A3 4 c3)).setCell ⟨w1.heap.size, 1, none⟩ (.slice D3 6 d3)).alloc (.cells #[.slice A3 4 c3, .slice D3 6 d3] 28)).heap.size := by simp; omega
      have hA5 : (((w3.setCell ⟨w1.heap.size, 0, none⟩ (.slice A3 4 c3)).setCell ⟨w1.heap.size, 1, none⟩ (.slice D3 6 d3)).alloc (.cells #[.slice A3 4 c3, .slice D3 6 d3] 28)).heap.size = w3.heap.size + 1 := by simp
      have HA2 := Lib.hid hA2
      have HA3 := Lib.hid hA3
      have HA4 := Lib.hid hA4
      have HA5 := Lib.hid hA5
      have HLN := Lib.hid hlen
      clear hA2 hA3 hA4 hA5
      dsimp only
      go_wp2_with (at_builtin; refine wpList_append_lies _ rfl (.tmp 29) (.tmp 30) _ rfl (w1.heap.size + 1) 81 ib _ 8 64 Tryz.underlying39 hib hbz0 hbz1 hbz2 rfl (by decide) v ys.length (sps ys) rfl hO4 ⟨vb, vo, none⟩ xs.length cs (sps xs) rfl (Zl xs) hRow5.news (zgd xs) HLN.out HA2.out HA3.out HA4.out (w3.heap.size + 1) HA5.out ?_; intro g2 c2 w6 hown2 hgrow2 hat2 hlt2)
      have hbb : Below (w1.heap.size + 1) (((w3.setCell ⟨w1.heap.size, 0, none⟩ (.slice A3 4 c3)).setCell ⟨w1.heap.size, 1, none⟩ (.slice D3 6 d3)).alloc (.cells #[.slice A3 4 c3, .slice D3 6 d3] 28)) w6 := (Below.refl _ _).grown hgrow2 (by simp; omega) hnb
      have hOS := OwnS.onto (xs := ys) rfl hown2
      have hB6 := hB5.trans (hbb.mono (by omega))
      have hs6 := hbb.size
      have hz6 : w1.heap.size < w6.heap.size := by simp at hs6; omega
      obtain ⟨_, _, _, _, hg5⟩ := hgrow2
      have hk6 : ∀ b, w2.heap.size ≤ b -> b < (((w3.setCell ⟨w1.heap.size, 0, none⟩ (.slice A3 4 c3)).setCell ⟨w1.heap.size, 1, none⟩ (.slice D3 6 d3)).alloc (.cells #[.slice A3 4 c3, .slice D3 6 d3] 28)).heap.size -> w6.heap[b]? = (((w3.setCell ⟨w1.heap.size, 0, none⟩ (.slice A3 4 c3)).setCell ⟨w1.heap.size, 1, none⟩ (.slice D3 6 d3)).alloc (.cells #[.slice A3 4 c3, .slice D3 6 d3] 28)).heap[b]? := fun b hb hl => hg5 b hl (fun e => by have := hobv b e.symm; omega)
      obtain ⟨z0, z1, z2, z3⟩ := hbc.out
      have hzz : w1.heap.size < ((w3.setCell ⟨w1.heap.size, 0, none⟩ (.slice A3 4 c3)).setCell ⟨w1.heap.size, 1, none⟩ (.slice D3 6 d3)).heap.size := by simp; omega
      have hX6 : Zx w6 (w.heap.size + 2) w1.heap.size (upto s (k + 1)) := Zx.of ((hbb.cell (p := ⟨w1.heap.size, 0, none⟩) (by show w1.heap.size < _; omega)).trans (y7 z0 _)) ((hbb.cell (p := ⟨w1.heap.size, 1, none⟩) (by show w1.heap.size < _; omega)).trans (y7 z1 _))
       ((hbb.frozen (p := ⟨w1.heap.size, 0, none⟩) (by show w1.heap.size < _; omega)).trans (fzP hzz z2 _)) ((hbb.frozen (p := ⟨w1.heap.size, 1, none⟩) (by show w1.heap.size < _; omega)).trans (fzP hzz z3 _))
       ((HOO5.out.keep fun b h1 _ hl => hk6 b h1 hl).mono (by omega) (by have h := hs6; rw [HA5.out] at h; omega)) (by omega)
      go_roundw
      case rel => exact ⟨k + 1, ys ++ xs, _, by omega, by go_num, rfl, by simp; omega, hOS, hX6, hB6, hz6⟩
      case measure => simp [intOf]; omega
  . have hk6 : k = 6 := by omega
    have hki : (6 : Int) ≤ k := by omega
    have h6 : upto s k = j4 s := by rw [hk6, zhp]
    have hkk : ¬ ((k : Int) + 1 ≤ 6) := by omega
    have hz7 : w.heap.size + 1 < wr.heap.size := by omega
    have hXo := HX.out
    obtain ⟨A', c', D', d', hs', p0, p1, _, _, ⟨hi', hApt', hle'⟩, hBk', hne, hD', hned⟩ := hXo
    have hd6 : (upto s k).disk.length = 6 := hOk.len
    clear HX hk6 hk hlt hki
    go_wp2
    have e0 := p0; have e1 := p1
    rw [o0] at e0; rw [o1] at e1
    cases e0; cases e1
    have hk2 : ∀ b, w.heap.size + 2 ≤ b -> ((wr.setCell ⟨w.heap.size + 1, 0, none⟩ (.slice Ao 4 co)).setCell ⟨w.heap.size + 1, 1, none⟩ (.slice Do 6 dd)).heap[b]? = wr.heap[b]? := fun b hb => by
     rw [Below.heap_setCell _ _ _ _ (show b ≠ w.heap.size + 1 by omega), Below.heap_setCell _ _ _ _ (show b ≠ w.heap.size + 1 by omega)]
    refine bodyPost_ret (v := .tuple #[.agg #[.slice Ao 4 co, .slice Do 6 dd], v]) (by simp [results, Tryz.results83, go_sem, hz7, rr0, rr1]) rfl ⟨Ao, co, Do, dd, v, rfl, ?_, ?_⟩
    . rw [← h6]
      have hO9 : OSt wr (w.heap.size + 2) wr.heap.size Ao (upto s k).flash Do (upto s k).disk := ⟨hs', hBk', hApt'.mono nl hle', hD', fun b hb => ⟨(hned b hb).1, hD'.lt (yc (by intro e; rw [e] at hd6; simp at hd6)) hb, fun e => (hned b hb).2.2 (.inl e), fun i x hx e => (hned b hb).2.2 (.inr ⟨i, x, hx, e⟩)⟩⟩
      exact (hO9.keep fun b hb _ _ => hk2 b hb).mono (by omega) (by simp)
    . refine Below.setCell (Below.setCell hBW ?_ _) ?_ _ <;> (show w.heap.size ≤ w.heap.size + 1; omega)
end
end Go.Proofs.YtclnogfmmekooaaGreat
open Go.RowKit Go.IntWalk Go.Maps
namespace Go.Proofs.YtclnogfmmekooaaGreat
section
theorem zkn {s : St} (h : Okay s) (e : Ev) : toR s (zz s e) e.c e.torn = if e.c < 0 then (st0, false) else (doTo s (zz s e) e.c e.torn, true) := by
 have hb := zbh h e
 have hs := xx.2 h
 unfold toR
 by_cases hc : e.c < 0
 . rw [if_pos (.inl hc), if_pos hc]
 . rw [if_neg (by rintro (q | q | q); exact hc q; rw [hs] at q; cases q; rw [hb] at q; cases q), if_neg hc]
theorem Zj.more {t : St} {w w' w'' : World} {e : Ending} (h : Zj t w e w') (hb : Below w'.heap.size w' w'') : Zj t w e w'' := by
 obtain ⟨A, c, D, d, v, he, h1, h4⟩ := h
 exact ⟨A, c, D, d, v, he, (h1.below hb nl).mono nl hb.size, h4.trans (hb.mono h4.size)⟩
theorem Jj (s : St) (e : Ev) (A D : Option Addr) (c d : Nat) (w : World) (hs : Okay s) (hF : Fl w A s.flash) (hD : Row w D (ints s.disk)) :
 Calls Tryz.prog 45 #[.agg #[.slice A 4 c, .slice D 6 d], .agg #[.int .i64 e.kind, .int .i64 e.a, .int .i64 e.b, .int .i64 e.c, .bool e.torn]] w (Zj (doEv s e) w) := by
 have hB0 : Below w.heap.size w (((w.alloc (.cells #[.slice A 4 c, .slice D 6 d] 28)).alloc (.cells #[.int .i64 e.kind, .int .i64 e.a, .int .i64 e.b, .int .i64 e.c, .bool e.torn] 33)).alloc (.cells #[.slice none 0 0, .slice none 0 0] 28)) := bw
 have hF0 := hF.below hB0 nl
 have hD0 := hD.below hB0 nl
 have hn4 : 4 = s.flash.length := (zf hs.flash).symm
 have hm6 : 6 = s.disk.length := hs.len.symm
 have HPA := Lib.hid (Y1 s A D c d _ hs hF0 hD0)
 have HPS := Lib.hid (zbb s e A D 4 6 c d _ hn4 hm6 hF0 hD0)
 rw [zbs hs] at HPS
 have HN4 := Lib.hid hn4
 have HM6 := Lib.hid hm6
 have HS := Lib.hid hs
 have HF := Lib.hid hF
 have HD := Lib.hid hD
 have htr := Lib.hid (zkn hs e)
 have hev : Hid (doEv s e = if e.kind = 4 then j4 s else if e.c < 0 then s else doTo s (zz s e) e.c e.torn) := rfl
 have hok := Jo hs e
 have HL4 := Lib.hid (zf hok.ok.flash)
 have HL6 := Lib.hid hok.ok.len
 have hsl : Hid ((zz s e).length ≤ 8) := Qp hs.fine e
 clear hs hF hD hF0 hD0 hn4 hm6 hok
 obtain ⟨k, ea, eb, ec, t⟩ := e
 dsimp only at *
 by_cases h4 : k = 4
 . subst h4
   rw [if_pos rfl] at hev
   go_enter Tryz.func45, Tryz.ntmps45
   go_wp2_with fail
   with_reducible refine HPA.out.mono ?_
   rintro r w1 ⟨A1, c1, D1, d1, v, rfl, hO1, hb⟩
   have hs1 : w.heap.size + 3 ≤ w1.heap.size := by have := hb.size; simpa using this
   obtain ⟨hcc, hff⟩ := jr hb
   have r0 : w1.cell? ⟨w.heap.size + 1 + 1, 0, none⟩ = some (.slice none 0 0) := (hcc _ _ (by simp)).trans ((top3 w _ _ #[.slice none 0 0, .slice none 0 0] 28).at0 (j := 0) rfl).1
   have r1 : w1.cell? ⟨w.heap.size + 1 + 1, 1, none⟩ = some (.slice none 0 0) := (hcc _ _ (by simp)).trans ((top3 w _ _ #[.slice none 0 0, .slice none 0 0] 28).at0 (j := 1) rfl).1
   have q0 : w1.frozen? ⟨w.heap.size + 1 + 1, 0, none⟩ = false := (hff _ _ (by simp)).trans ((top3 w _ _ #[.slice none 0 0, .slice none 0 0] 28).at0 (j := 0) rfl).2
   have q1 : w1.frozen? ⟨w.heap.size + 1 + 1, 1, none⟩ = false := (hff _ _ (by simp)).trans ((top3 w _ _ #[.slice none 0 0, .slice none 0 0] 28).at0 (j := 1) rfl).2
   have hB1 : Below w.heap.size w w1 := hB0.trans (hb.mono (by simp; omega))
   have hsz : (((w.alloc (.cells #[.slice A 4 c, .slice D 6 d] 28)).alloc (.cells #[.int .i64 4, .int .i64 ea, .int .i64 eb, .int .i64 ec, .bool t] 33)).alloc (.cells #[.slice none 0 0, .slice none 0 0] 28)).heap.size = w.heap.size + 3 := by simp
   rw [hsz] at hO1
   have hz : w.heap.size + 1 + 1 < w1.heap.size := by omega
   have hk2 : ∀ b, w.heap.size + 3 ≤ b -> ((w1.setCell ⟨w.heap.size + 1 + 1, 0, none⟩ (.slice A1 4 c1)).setCell ⟨w.heap.size + 1 + 1, 1, none⟩ (.slice D1 6 d1)).heap[b]? = w1.heap[b]? := fun b hb => by
    rw [Below.heap_setCell _ _ _ _ (show b ≠ w.heap.size + 1 + 1 by omega), Below.heap_setCell _ _ _ _ (show b ≠ w.heap.size + 1 + 1 by omega)]
   clear hcc hff hb hsz
   go_wp2
   refine bodyPost_ret (v := .tuple #[.agg #[.slice A1 4 c1, .slice D1 6 d1], v]) (by simp [results, Tryz.results45, go_sem, hz, r0, r1]) rfl ⟨A1, c1, D1, d1, v, rfl, ?_, ?_⟩
   . rw [hev.out]
     exact (hO1.keep fun b hb _ _ => hk2 b hb).mono (by omega) (by simp)
   . refine Below.setCell (Below.setCell hB1 ?_ _) ?_ _ <;> (show w.heap.size ≤ w.heap.size + 1 + 1; omega)
 . rw [if_neg h4] at hev
   have h4' : (k == 4) = false := by simpa using h4
   go_enter Tryz.func45, Tryz.ntmps45
   go_wp2_with fail
   with_reducible refine HPS.out.mono ?_
   rintro r w1 ⟨v1, rfl, hO, hb⟩
   have hs1 : w.heap.size + 3 ≤ w1.heap.size := by have := hb.size; simpa using this
   obtain ⟨hcc, hff⟩ := jr hb
   have x0 : w1.cell? ⟨w.heap.size, 0, none⟩ = some (.slice A 4 c) := (hcc _ _ (by simp; omega)).trans (y7 (y7 (by simp) _) _)
   have x1 : w1.cell? ⟨w.heap.size, 1, none⟩ = some (.slice D 6 d) := (hcc _ _ (by simp; omega)).trans (y7 (y7 (by simp) _) _)
   have y3 : w1.cell? ⟨w.heap.size + 1, 3, none⟩ = some (.int .i64 ec) := (hcc _ _ (by simp)).trans (y7 (by simp) _)
   have y4 : w1.cell? ⟨w.heap.size + 1, 4, none⟩ = some (.bool t) := (hcc _ _ (by simp)).trans (y7 (by simp) _)
   have r0 : w1.cell? ⟨w.heap.size + 1 + 1, 0, none⟩ = some (.slice none 0 0) := (hcc _ _ (by simp)).trans ((top3 w _ _ #[.slice none 0 0, .slice none 0 0] 28).at0 (j := 0) rfl).1
   have r1 : w1.cell? ⟨w.heap.size + 1 + 1, 1, none⟩ = some (.slice none 0 0) := (hcc _ _ (by simp)).trans ((top3 w _ _ #[.slice none 0 0, .slice none 0 0] 28).at0 (j := 1) rfl).1
   have q0 : w1.frozen? ⟨w.heap.size + 1 + 1, 0, none⟩ = false := (hff _ _ (by simp)).trans ((top3 w _ _ #[.slice none 0 0, .slice none 0 0] 28).at0 (j := 0) rfl).2
   have q1 : w1.frozen? ⟨w.heap.size + 1 + 1, 1, none⟩ = false := (hff _ _ (by simp)).trans ((top3 w _ _ #[.slice none 0 0, .slice none 0 0] 28).at0 (j := 1) rfl).2
   have hB1 : Below w.heap.size w w1 := hB0.trans (hb.mono (by simp; omega))
   generalize zz s ⟨k, ea, eb, ec, t⟩ = xs at *
   obtain ⟨V, cs, rfl, hcs, hRow, hblk⟩ := hO.shape
   have HTO := Lib.hid (Xi s xs ec t A D V 4 6 c d cs w1 HN4.out HM6.out (by have := hsl.out; omega) (HF.out.below hB1 nl) (HD.out.below hB1 nl) hRow)
   rw [htr.out] at HTO
   have HCS := Lib.hid hcs
   clear hcc hff hb hO hRow hblk htr HPA HPS hB0
   go_wp2_with fail
   with_reducible refine HTO.out.mono ?_
   rintro r w2 ⟨A2, c2, D2, d2, rfl, hO2, hb2⟩
   have hs2 := hb2.size
   replace x0 := (hb2.cell (p := ⟨w.heap.size, 0, none⟩) (by show w.heap.size < _; omega)).trans x0
   replace x1 := (hb2.cell (p := ⟨w.heap.size, 1, none⟩) (by show w.heap.size < _; omega)).trans x1
   replace y3 := (hb2.cell (p := ⟨w.heap.size + 1, 3, none⟩) (by show w.heap.size + 1 < _; omega)).trans y3
   replace y4 := (hb2.cell (p := ⟨w.heap.size + 1, 4, none⟩) (by show w.heap.size + 1 < _; omega)).trans y4
   replace r0 := (hb2.cell (p := ⟨w.heap.size + 1 + 1, 0, none⟩) (by show w.heap.size + 1 + 1 < _; omega)).trans r0
   replace r1 := (hb2.cell (p := ⟨w.heap.size + 1 + 1, 1, none⟩) (by show w.heap.size + 1 + 1 < _; omega)).trans r1
   replace q0 := (hb2.frozen (p := ⟨w.heap.size + 1 + 1, 0, none⟩) (by show w.heap.size + 1 + 1 < _; omega)).trans q0
   replace q1 := (hb2.frozen (p := ⟨w.heap.size + 1 + 1, 1, none⟩) (by show w.heap.size + 1 + 1 < _; omega)).trans q1
   have hB2 := hB1.trans (hb2.mono hB1.size)
   have z0 : w.heap.size < w2.heap.size := by omega
   have z1 : w.heap.size + 1 < w2.heap.size := by omega
   have z2 : w.heap.size + 1 + 1 < w2.heap.size := by omega
   clear HTO hb2 h4
   have hend : ∀ (w3 : World) (A3 D3 : Option Addr) (c3 d3 lo : Nat) (v : Value) (t' : St), w.heap.size + 3 ≤ lo -> Below w.heap.size w w3 -> OSt w3 lo w3.heap.size A3 t'.flash D3 t'.disk -> t' = doEv s ⟨k, ea, eb, ec, t⟩ ->
    Zj (doEv s ⟨k, ea, eb, ec, t⟩) w (.returned (.tuple #[.agg #[.slice A3 4 c3, .slice D3 6 d3], v])) ((w3.setCell ⟨w.heap.size + 1 + 1, 0, none⟩ (.slice A3 4 c3)).setCell ⟨w.heap.size + 1 + 1, 1, none⟩ (.slice D3 6 d3)) := fun w3 A3 D3 c3 d3 lo v t' h1 h2 h3 h6 => by
    have hk2 : ∀ b, lo ≤ b -> ((w3.setCell ⟨w.heap.size + 1 + 1, 0, none⟩ (.slice A3 4 c3)).setCell ⟨w.heap.size + 1 + 1, 1, none⟩ (.slice D3 6 d3)).heap[b]? = w3.heap[b]? := fun b hb => by
     rw [Below.heap_setCell _ _ _ _ (show b ≠ w.heap.size + 1 + 1 by omega), Below.heap_setCell _ _ _ _ (show b ≠ w.heap.size + 1 + 1 by omega)]
    rw [← h6]
    refine ⟨A3, c3, D3, d3, v, rfl, (h3.keep fun b hb _ _ => hk2 b hb).mono (by omega) (by simp), ?_⟩
    . refine Below.setCell (Below.setCell h2 ?_ _) ?_ _ <;> (show w.heap.size ≤ w.heap.size + 1 + 1; omega)
   have HEND := Lib.hid hend
   clear hend
   by_cases hc : ec < 0
   . rw [if_pos hc] at hev
     rw [if_pos hc]
     rw [show ((st0, false) : St × Bool).1.flash.length = 0 from rfl, show ((st0, false) : St × Bool).1.disk.length = 0 from rfl]
     dsimp only
     have HSC := Lib.hid (Zm s A D c d _ HS.out.fine ((HF.out.below hB2 nl).alloc (.cells #[.slice A2 0 c2, .slice D2 0 d2] 28)) ((HD.out.below hB2 nl).alloc (.cells #[.slice A2 0 c2, .slice D2 0 d2] 28)))
     clear hO2 hc
     go_wp2_with fail
     with_reducible refine HSC.out.mono ?_
     rintro r w3 ⟨g3, d3, rfl, hO3, hb3⟩
     have hs3 : w2.heap.size + 1 ≤ w3.heap.size := by have := hb3.size; simpa using this
     obtain ⟨hcc, hff⟩ := jr hb3
     replace r0 := (hcc (w.heap.size + 1 + 1) 0 (by simp; omega)).trans (y7 r0 _)
     replace r1 := (hcc (w.heap.size + 1 + 1) 1 (by simp; omega)).trans (y7 r1 _)
     replace q0 := (hff (w.heap.size + 1 + 1) 0 (by simp; omega)).trans (fzP z2 q0 _)
     replace q1 := (hff (w.heap.size + 1 + 1) 1 (by simp; omega)).trans (fzP z2 q1 _)
     have hB3 : Below w.heap.size w w3 := (hB2.alloc hB2.size _).trans (hb3.mono (by simp; omega))
     have hz3 : w.heap.size + 1 + 1 < w3.heap.size := by omega
     obtain ⟨hs5, hBk5, hApt5, hD5, hdb5⟩ := hO3
     have hsz : (w2.alloc (.cells #[.slice A2 0 c2, .slice D2 0 d2] 28)).heap.size = w2.heap.size + 1 := by simp
     rw [hsz] at hApt5 hdb5
     clear hb3 hcc hff HSC
     go_wp2
     refine bodyPost_ret (v := .tuple #[.agg #[.slice (some ⟨g3, 0, none⟩) 4 4, .slice (some ⟨d3, 0, none⟩) 6 6], .slice none 0 0]) (by simp [results, Tryz.results45, go_sem, hz3, r0, r1]) rfl ?_
     exact HEND.out w3 _ _ 4 6 (w2.heap.size + 1) _ s (by omega) hB3 ⟨hs5, hBk5, hApt5, hD5, hdb5⟩ hev.out.symm
   . rw [if_neg hc] at hev hO2
     rw [if_neg hc]
     have h4f : (doTo s xs ec t).flash.length = 4 := by rw [← hev.out]; exact HL4.out
     have h6f : (doTo s xs ec t).disk.length = 6 := by rw [← hev.out]; exact HL6.out
     rw [show ((doTo s xs ec t, true) : St × Bool).1.flash.length = 4 from h4f, show ((doTo s xs ec t, true) : St × Bool).1.disk.length = 6 from h6f]
     dsimp only at hO2 ⊢
     obtain ⟨cn, rfl⟩ := Int.eq_ofNat_of_zero_le (show (0 : Int) ≤ ec by omega)
     have hcsl := HCS.out
     have hxl := hsl.out
     have HO2 := Lib.hid hO2
     clear hO2 h4f h6f hc
     rcases Nat.lt_trichotomy xs.length cn with hl | hl | hl
     . have hl' : (xs.length : Int) < cn := by omega
       cases t
       . skip
         go_wp2
         go_region
         go_wp2
         refine bodyPost_ret (v := .tuple #[.agg #[.slice A2 4 c2, .slice D2 6 d2], .slice V (xs.length) cs]) (by simp [results, Tryz.results45, go_sem, z2, r0, r1]) rfl ?_
         exact (HEND.out w2 A2 D2 c2 d2 w1.heap.size _ _ (by omega) hB2 HO2.out hev.out.symm).more (((Below.refl _ _).alloc nl _).drew)
       . skip
         go_wp2
         go_region
         go_wp2
         refine bodyPost_ret (v := .tuple #[.agg #[.slice A2 4 c2, .slice D2 6 d2], .slice V (xs.length) cs]) (by simp [results, Tryz.results45, go_sem, z2, r0, r1]) rfl ?_
         exact (HEND.out w2 A2 D2 c2 d2 w1.heap.size _ _ (by omega) hB2 HO2.out hev.out.symm).more (((Below.refl _ _).alloc nl _).drew)
     . subst hl
       cases t
       . skip
         go_wp2
         go_region
         go_wp2
         refine bodyPost_ret (v := .tuple #[.agg #[.slice A2 4 c2, .slice D2 6 d2], .slice V (xs.length) cs]) (by simp [results, Tryz.results45, go_sem, z2, r0, r1]) rfl ?_
         exact (HEND.out w2 A2 D2 c2 d2 w1.heap.size _ _ (by omega) hB2 HO2.out hev.out.symm).more (((Below.refl _ _).alloc nl _).drew)
       . skip
         go_wp2
         go_region
         go_wp2
         refine bodyPost_ret (v := .tuple #[.agg #[.slice A2 4 c2, .slice D2 6 d2], .slice V (xs.length) cs]) (by simp [results, Tryz.results45, go_sem, z2, r0, r1]) rfl ?_
         exact (HEND.out w2 A2 D2 c2 d2 w1.heap.size _ _ (by omega) hB2 HO2.out hev.out.symm).more (((Below.refl _ _).alloc nl _).drew)
     . have hl' : (cn : Int) < xs.length := by omega
       have hl2 : ¬ (xs.length : Int) < cn := by omega
       have hl3 : ¬ xs.length < cn := by omega
       have hcn : cn ≤ cs := by omega
       have hcn1 : cn + 1 ≤ cs := by omega
       have e1 : IntKind.i64.wrap ((cn : Int) + 1) = (cn : Int) + 1 := IntWalk.i64_in _ (by omega)
       have e2 : ((cn : Int) + 1).toNat = cn + 1 := by omega
       have e3 : (0 : Int) ≤ (cn : Int) + 1 := by omega
       cases t
       . skip
         go_wp2
         go_region
         go_wp2
         refine bodyPost_ret (v := .tuple #[.agg #[.slice A2 4 c2, .slice D2 6 d2], .slice V (cn) cs]) (by simp [results, Tryz.results45, go_sem, z2, r0, r1]) rfl ?_
         exact (HEND.out w2 A2 D2 c2 d2 w1.heap.size _ _ (by omega) hB2 HO2.out hev.out.symm).more (((Below.refl _ _).alloc nl _).drew)
       . skip
         go_wp2
         go_region
         go_wp2
         refine bodyPost_ret (v := .tuple #[.agg #[.slice A2 4 c2, .slice D2 6 d2], .slice V (cn + 1) cs]) (by simp [results, Tryz.results45, go_sem, z2, r0, r1]) rfl ?_
         exact (HEND.out w2 A2 D2 c2 d2 w1.heap.size _ _ (by omega) hB2 HO2.out hev.out.symm).more (((Below.refl _ _).alloc nl _).drew)
end
end Go.Proofs.YtclnogfmmekooaaGreat
open Go.RowKit Go.IntWalk Go.Maps
namespace Go.Proofs.YtclnogfmmekooaaGreat
section
def plDo (s : St) (e : Ev) : St := if xg s = true then doEv s e else st0
def zqv (t : St) (w : World) (e : Ending) (w' : World) : Prop :=
 ∃ A c D d, e = .returned (.agg #[.slice A t.flash.length c, .slice D t.disk.length d]) ∧ FlAt w' w.heap.size A t.flash ∧ Row w' D (ints t.disk) ∧ (∀ b, blk D b -> w.heap.size ≤ b) ∧ Below w.heap.size w w'
def zpr (t : St) (w : World) (e : Ending) (w' : World) : Prop :=
 ∃ A c D d, e = .returned (.agg #[.slice A t.flash.length c, .slice D t.disk.length d]) ∧ OSt w' w.heap.size w'.heap.size A t.flash D t.disk ∧ Below w.heap.size w w'
theorem zpr.post {t : St} {w w' : World} {e : Ending} (h : zpr t w e w') : zqv t w e w' := by
 obtain ⟨A, c, D, d, rfl, hO, hb⟩ := h
 exact ⟨A, c, D, d, rfl, hO.flAt0, hO.disk, hO.dlo, hb⟩
theorem OSt.nil (w : World) (lo hi : Nat) : OSt w lo hi none st0.flash none st0.disk :=
 ⟨[], ⟨rfl, Row.nil _ _, fun i b x h => absurd h (by simp [st0])⟩, ⟨fun b hb => (by cases hb), fun i x b h => by simp at h, fun i j x y b h => by simp at h⟩, Row.nil _ _, fun b hb => (by cases hb)⟩
theorem zae (s : St) (e : Ev) (A D : Option Addr) (n m c d : Nat) (w : World) (hn : n = s.flash.length) (hm : m = s.disk.length) (hF : Fl w A s.flash) (hD : Row w D (ints s.disk)) :
 Calls Tryz.prog 25 #[.agg #[.slice A n c, .slice D m d], .agg #[.int .i64 e.kind, .int .i64 e.a, .int .i64 e.b, .int .i64 e.c, .bool e.torn]] w (zpr (plDo s e) w) := by
 have hB0 : Below w.heap.size w (((w.alloc (.cells #[.slice A n c, .slice D m d] 28)).alloc (.cells #[.int .i64 e.kind, .int .i64 e.a, .int .i64 e.b, .int .i64 e.c, .bool e.torn] 33)).alloc (.cells #[.slice none 0 0, .slice none 0 0] 28)) := bw
 have HSO := Lib.hid (j8 s A D n m c d _ hn hm (hF.below hB0 nl) (hD.below hB0 nl))
 have HF := Lib.hid hF
 have HD := Lib.hid hD
 have hfacts : ∀ w1, Below (((w.alloc (.cells #[.slice A n c, .slice D m d] 28)).alloc (.cells #[.int .i64 e.kind, .int .i64 e.a, .int .i64 e.b, .int .i64 e.c, .bool e.torn] 33)).alloc (.cells #[.slice none 0 0, .slice none 0 0] 28)).heap.size (((w.alloc (.cells #[.slice A n c, .slice D m d] 28)).alloc (.cells #[.int .i64 e.kind, .int .i64 e.a, .int .i64 e.b, .int .i64 e.c, .bool e.torn] 33)).alloc (.cells #[.slice none 0 0, .slice none 0 0] 28)) w1 ->
  w.heap.size + 3 ≤ w1.heap.size ∧ w1.cell? ⟨w.heap.size, 0, none⟩ = some (.slice A n c) ∧ w1.cell? ⟨w.heap.size, 1, none⟩ = some (.slice D m d) ∧ w1.cell? ⟨w.heap.size + 1, 0, none⟩ = some (.int .i64 e.kind) ∧ w1.cell? ⟨w.heap.size + 1, 1, none⟩ = some (.int .i64 e.a) ∧ w1.cell? ⟨w.heap.size + 1, 2, none⟩ = some (.int .i64 e.b) ∧ w1.cell? ⟨w.heap.size + 1, 3, none⟩ = some (.int .i64 e.c) ∧ w1.cell? ⟨w.heap.size + 1, 4, none⟩ = some (.bool e.torn) ∧
  w1.cell? ⟨w.heap.size + 1 + 1, 0, none⟩ = some (.slice none 0 0) ∧ w1.cell? ⟨w.heap.size + 1 + 1, 1, none⟩ = some (.slice none 0 0) ∧ w1.frozen? ⟨w.heap.size + 1 + 1, 0, none⟩ = false ∧ w1.frozen? ⟨w.heap.size + 1 + 1, 1, none⟩ = false := fun w1 hb => by
  have hs1 : w.heap.size + 3 ≤ w1.heap.size := by have := hb.size; simpa using this
  obtain ⟨hcc, hff⟩ := jr hb
  exact ⟨hs1, (hcc _ _ (by simp; omega)).trans (y7 (y7 (by simp) _) _), (hcc _ _ (by simp; omega)).trans (y7 (y7 (by simp) _) _), (hcc _ _ (by simp)).trans (y7 (by simp) _), (hcc _ _ (by simp)).trans (y7 (by simp) _), (hcc _ _ (by simp)).trans (y7 (by simp) _), (hcc _ _ (by simp)).trans (y7 (by simp) _), (hcc _ _ (by simp)).trans (y7 (by simp) _),
   (hcc _ _ (by simp)).trans ((top3 w _ _ #[.slice none 0 0, .slice none 0 0] 28).at0 (j := 0) rfl).1, (hcc _ _ (by simp)).trans ((top3 w _ _ #[.slice none 0 0, .slice none 0 0] 28).at0 (j := 1) rfl).1, (hff _ _ (by simp)).trans ((top3 w _ _ #[.slice none 0 0, .slice none 0 0] 28).at0 (j := 0) rfl).2, (hff _ _ (by simp)).trans ((top3 w _ _ #[.slice none 0 0, .slice none 0 0] 28).at0 (j := 1) rfl).2⟩
 have HFA := Lib.hid hfacts
 clear hfacts
 by_cases hok : xg s = true
 . have hs := xx.1 hok
   have hfin : Hid (plDo s e = doEv s e) := by unfold Hid plDo; rw [if_pos hok]
   obtain rfl : n = 4 := by have := zf hs.flash; omega
   obtain rfl : m = 6 := by have := hs.len; omega
   have hev := (Jo hs e).ok
   have HL4 := Lib.hid (zf hev.flash)
   have HL6 := Lib.hid hev.len
   have HS := Lib.hid hs
   rw [hok] at HSO
   clear hok hn hm hF hD hs hev
   go_enter Tryz.func25, Tryz.ntmps25
   go_wp2_with fail
   with_reducible refine HSO.out.mono ?_
   rintro r w1 ⟨rfl, hb⟩
   obtain ⟨hs1, x0, x1, y0, y1, y2, y3, y4, r0, r1, q0, q1⟩ := HFA.out w1 hb
   have hB1 : Below w.heap.size w w1 := hB0.trans (hb.mono (by simp; omega))
   have HPB := Lib.hid (Jj s e A D c d w1 HS.out (HF.out.below hB1 nl) (HD.out.below hB1 nl))
   clear hb HSO HFA hB0
   go_wp2_with fail
   with_reducible refine HPB.out.mono ?_
   rintro r w2 ⟨A2, c2, D2, d2, v, rfl, hO2, hb2⟩
   have hs2 := hb2.size
   replace r0 := (hb2.cell (p := ⟨w.heap.size + 1 + 1, 0, none⟩) (by show w.heap.size + 1 + 1 < _; omega)).trans r0
   replace r1 := (hb2.cell (p := ⟨w.heap.size + 1 + 1, 1, none⟩) (by show w.heap.size + 1 + 1 < _; omega)).trans r1
   replace q0 := (hb2.frozen (p := ⟨w.heap.size + 1 + 1, 0, none⟩) (by show w.heap.size + 1 + 1 < _; omega)).trans q0
   replace q1 := (hb2.frozen (p := ⟨w.heap.size + 1 + 1, 1, none⟩) (by show w.heap.size + 1 + 1 < _; omega)).trans q1
   have hB2 := hB1.trans (hb2.mono hB1.size)
   have z2 : w.heap.size + 1 + 1 < w2.heap.size := by omega
   have HO2 := Lib.hid hO2
   clear hO2 hb2 HPB x0 x1 y0 y1 y2 y3 y4
   go_wp2
   have hk2 : ∀ b, w1.heap.size ≤ b -> b < w2.heap.size -> (((w2.setCell ⟨w.heap.size + 1 + 1, 0, none⟩ (.slice A2 4 c2)).setCell ⟨w.heap.size + 1 + 1, 1, none⟩ (.slice D2 6 d2)).alloc (.cells #[.slice A2 4 c2, .slice D2 6 d2] 28)).heap[b]? = w2.heap[b]? := fun b hb hl => by
    rw [Below.heap_alloc _ _ _ (by simpa using hl), Below.heap_setCell _ _ _ _ (show b ≠ w.heap.size + 1 + 1 by omega), Below.heap_setCell _ _ _ _ (show b ≠ w.heap.size + 1 + 1 by omega)]
   refine bodyPost_ret (v := .agg #[.slice A2 4 c2, .slice D2 6 d2]) (by simp [results, Tryz.results25, go_sem, z2, r0, r1]) rfl ?_
   rw [hfin.out]
   refine ⟨A2, c2, D2, d2, by rw [HL4.out, HL6.out], (HO2.out.keep fun b h1 _ hl => hk2 b h1 hl).mono (by omega) (by simp), ?_⟩
   . exact ((hB2.setCell (p := ⟨w.heap.size + 1 + 1, 0, none⟩) (by show w.heap.size ≤ w.heap.size + 1 + 1; omega) _).setCell (p := ⟨w.heap.size + 1 + 1, 1, none⟩) (by show w.heap.size ≤ w.heap.size + 1 + 1; omega) _).alloc (by simp; omega) _
 . have hok' : xg s = false := by simpa using hok
   have hfin : Hid (plDo s e = st0) := by unfold Hid plDo; rw [if_neg hok]
   rw [hok'] at HSO
   clear hok hok' hn hm hF hD
   go_enter Tryz.func25, Tryz.ntmps25
   go_wp2_with (go_at_call 11; (with_reducible refine HSO.out.mono ?_); rintro r w1 ⟨rfl, hb⟩; obtain ⟨hs1, x0, x1, y0, y1, y2, y3, y4, r0, r1, q0, q1⟩ := HFA.out w1 hb)
   have hB1 : Below w.heap.size w w1 := hB0.trans (hb.mono (by simp; omega))
   have z2 : w.heap.size + 1 + 1 < w1.heap.size := by omega
   refine bodyPost_ret (v := .agg #[.slice none 0 0, .slice none 0 0]) (by simp [results, Tryz.results25, go_sem, z2, r0, r1]) rfl ?_
   rw [hfin.out]
   refine ⟨none, 0, none, 0, rfl, OSt.nil _ _ _, ?_⟩
   refine Below.setCell (Below.setCell hB1 ?_ _) ?_ _ <;> (show w.heap.size ≤ w.heap.size + 1 + 1; omega)
end
end Go.Proofs.YtclnogfmmekooaaGreat
open Go.RowKit Go.IntWalk Go.Maps
namespace Go.Proofs.YtclnogfmmekooaaGreat
section
def runR (es : List Ev) : St × Bool := if 60 < es.length then (st0, false) else (yo es, true)
theorem Row.ev {w : World} {b o k : Nat} {xs : List Ev} {x : Ev} (h : Row w (some ⟨b, o, none⟩) (evs xs)) (hk : xs[k]? = some x) :
 w.cell? ⟨b, o + k * 5, none⟩ = some (.int .i64 x.kind) ∧ w.cell? ⟨b, o + k * 5 + 1, none⟩ = some (.int .i64 x.a) ∧ w.cell? ⟨b, o + k * 5 + 2, none⟩ = some (.int .i64 x.b) ∧ w.cell? ⟨b, o + k * 5 + 3, none⟩ = some (.int .i64 x.c) ∧ w.cell? ⟨b, o + k * 5 + 4, none⟩ = some (.bool x.torn) := by
 have hlt := (List.getElem?_eq_some_iff.1 hk).1
 obtain ⟨b', o', he, hc⟩ := h (by intro e; have := Xc xs; rw [e] at this; simp at this; omega)
 cases he
 have hg : ∀ j u, x.vs[j]? = some u -> j < 5 -> w.cell? ⟨b, o + (k * 5 + j), none⟩ = some u := fun j u hj hl => (hc (k * 5 + j) u (by rw [evs, jq _ 5 (fun _ => rfl) xs k j x hk hl]; exact hj)).1
 exact ⟨hg 0 _ rfl (by omega), hg 1 _ rfl (by omega), hg 2 _ rfl (by omega), hg 3 _ rfl (by omega), hg 4 _ rfl (by omega)⟩
theorem Y3 (es : List Ev) (V : Option Addr) (cs : Nat) (w : World) (hl : es.length < 1000000000000) (hX : Row w V (evs es)) :
 Calls Tryz.prog 6 #[.slice V es.length cs] w (za1 (runR es) w) := by
 by_cases h60 : 60 < es.length
 . have hfin : Hid (runR es = (st0, false)) := by unfold Hid runR; rw [if_pos h60]
   have h60' : (60 : Int) < es.length := by omega
   go_enter Tryz.func6, Tryz.ntmps6
   go_wp2
   refine bodyPost_ret (v := .tuple #[.agg #[.slice none 0 0, .slice none 0 0], .bool false]) (by simp [results, Tryz.results6, go_sem]) rfl ?_
   rw [hfin.out]
   exact za1.fail bw
 . have hfin : Hid (runR es = (yo es, true)) := by unfold Hid runR; rw [if_neg h60]
   have h60' : ¬ (60 : Int) < es.length := by omega
   go_enter Tryz.func6, Tryz.ntmps6
   go_wp2_with fail
   with_reducible refine (zda _).mono ?_
   rintro e w1 ⟨A0, c0, D0, rfl, hc0, hO, hb1⟩
   have hs1 : w.heap.size + 1 ≤ w1.heap.size := by have := hb1.size; simpa using this
   have hB1 : Below w.heap.size w w1 := ((Below.refl _ _).alloc nl _).trans (hb1.mono (by simp))
   obtain ⟨hcc, hff⟩ := jr hb1
   have r0 : w1.cell? ⟨w.heap.size, 0, none⟩ = some (.slice none 0 0) := (hcc _ _ (by simp)).trans (by simp)
   have r1 : w1.cell? ⟨w.heap.size, 1, none⟩ = some (.slice none 0 0) := (hcc _ _ (by simp)).trans (by simp)
   have q0 : w1.frozen? ⟨w.heap.size, 0, none⟩ = false := (hff _ _ (by simp)).trans (by simp)
   have q1 : w1.frozen? ⟨w.heap.size, 1, none⟩ = false := (hff _ _ (by simp)).trans (by simp)
   have hbx := Zx.new (c := c0) (d := 6) (t := new0) (lo := w.heap.size + 1) (hO.mono (by simp) nl)
   have hX1 := hX.below hB1 nl
   clear hO hb1 hcc hff
   go_wp2
   go_loopw [14] (fun i wr => ∃ k : Nat, k ≤ es.length ∧ i = .int .i64 k ∧ Zx wr (w.heap.size + 1) w1.heap.size (yo (es.take k)) ∧ Below w1.heap.size w1 wr ∧ w1.heap.size < wr.heap.size) (fun i _ => es.length - (intOf i).toNat)
   case atStart => exact ⟨0, by omega, rfl, hbx, bw, by simp⟩
   case round =>
    obtain ⟨k, hk, rfl, hBx, hB, hz⟩ := hrel
    clear hbx
    have hbs := hB.size
    have rr0 := (hB.cell (p := ⟨w.heap.size, 0, none⟩) (by show w.heap.size < _; omega)).trans r0
    have rr1 := (hB.cell (p := ⟨w.heap.size, 1, none⟩) (by show w.heap.size < _; omega)).trans r1
    have qq0 := (hB.frozen (p := ⟨w.heap.size, 0, none⟩) (by show w.heap.size < _; omega)).trans q0
    have qq1 := (hB.frozen (p := ⟨w.heap.size, 1, none⟩) (by show w.heap.size < _; omega)).trans q1
    have hBW := hB1.trans (hB.mono hB1.size)
    have HBX := Lib.hid hBx
    obtain ⟨Ao, co, Do, dd, hso, o0, o1, f0, f1, ⟨hiA, hApA, hleA⟩, hBk, hne, hDo, hned⟩ := hBx
    by_cases hlt : k < es.length
    . obtain ⟨x, hx⟩ := zd hlt
      have hXr := hX1.below hB nl
      obtain ⟨vb, vo, rfl⟩ := hXr.addr (by intro e; have := Xc es; rw [e] at this; simp at this; omega)
      obtain ⟨c0', c1', c2', c3', c4'⟩ := hXr.ev hx
      have hk1 : (k : Int) < es.length := by omega
      have e1 : IntKind.i64.wrap ((k : Int) + 1) = (k : Int) + 1 := IntWalk.i64_in _ (by omega)
      have hsn : Hid (yo (es.take (k + 1)) = doEv (yo (es.take k)) x) := by rw [Hid, List.take_add_one, hx]; exact zcz _ _
      have hokr := (Qt (es.take k)).ok
      have hev := (Jo hokr x).ok
      have hpl : plDo (yo (es.take k)) x = doEv (yo (es.take k)) x := by unfold plDo; rw [if_pos (xx.2 hokr)]
      have HPD := Lib.hid (zae (yo (es.take k)) x Ao Do 4 6 co dd (wr.alloc (.cells #[.int .i64 x.kind, .int .i64 x.a, .int .i64 x.b, .int .i64 x.c, .bool x.torn] 33)) (zf hokr.flash).symm hokr.len.symm (Fl.alloc ⟨hso, hBk⟩ _) (hDo.alloc _))
      rw [hpl] at HPD
      have HL4 := Lib.hid (zf hev.flash)
      have HL6 := Lib.hid hev.len
      clear hx hXr hpl hokr hev hBk hDo hne hned
      go_wp2_with fail
      with_reducible refine HPD.out.mono ?_
      rintro e w2 ⟨A2, c2, D2, d2, rfl, hO2, hb2⟩
      rw [HL4.out, HL6.out]
      have hB2 : Below wr.heap.size wr w2 := ((Below.refl _ _).alloc nl _).trans (hb2.mono (by simp))
      have hsz : (wr.alloc (.cells #[.int .i64 x.kind, .int .i64 x.a, .int .i64 x.b, .int .i64 x.c, .bool x.torn] 33)).heap.size = wr.heap.size + 1 := by simp
      rw [hsz] at hO2
      have hX2 := HBX.out.below hB2 nl
      have hs2 := hB2.size
      have hX3 := Lib.hid (hX2.put (c := c2) (d := d2) (hO2.mono (by omega) nl) (by omega) rfl)
      have hB3 : Below w1.heap.size w1 ((w2.setCell ⟨w1.heap.size, 0, none⟩ (.slice A2 4 c2)).setCell ⟨w1.heap.size, 1, none⟩ (.slice D2 6 d2)) := ((hB.trans (hB2.mono hbs)).setCell (p := ⟨w1.heap.size, 0, none⟩) nl _).setCell (p := ⟨w1.heap.size, 1, none⟩) nl _
      obtain ⟨_, _, _, _, _, p0, p1, p2, p3, _⟩ := hX2
      clear HPD hO2 hb2 HBX
      go_wp2
      go_roundw
      case rel => exact ⟨k + 1, by omega, by go_num, by rw [hsn.out]; exact hX3.out, hB3, by simp; omega⟩
      case measure => simp [intOf]; omega
    . have hki : (es.length : Int) ≤ k := by omega
      have htk : es.take k = es := List.take_of_length_le (by omega)
      have hz7 : w.heap.size < wr.heap.size := by omega
      rw [htk] at hBk hDo
      have hok := (Qt es).ok
      have HB := Lib.hid hBk
      have hzo : w.heap.size + 1 ≤ wr.heap.size := by omega
      clear HBX htk
      go_wp2
      have hk2 : ∀ b, w.heap.size + 1 ≤ b -> ((wr.setCell ⟨w.heap.size, 0, none⟩ (.slice Ao 4 co)).setCell ⟨w.heap.size, 1, none⟩ (.slice Do 6 dd)).heap[b]? = wr.heap[b]? := fun b hb => by
       rw [Below.heap_setCell _ _ _ _ (show b ≠ w.heap.size by omega), Below.heap_setCell _ _ _ _ (show b ≠ w.heap.size by omega)]
      refine bodyPost_ret (v := .tuple #[.agg #[.slice Ao 4 co, .slice Do 6 dd], .bool true]) (by simp [results, Tryz.results6, go_sem, hz7, rr0, rr1]) rfl ?_
      rw [hfin.out]
      have hd6 := hok.len
      have hO9 : OSt wr (w.heap.size + 1) wr.heap.size Ao (yo es).flash Do (yo es).disk := ⟨hso, hBk, hApA.mono nl hleA, hDo, fun b hb => ⟨(hned b hb).1, hDo.lt (yc (by intro e; rw [e] at hd6; simp at hd6)) hb, fun e => (hned b hb).2.2 (.inl e), fun i x hx e => (hned b hb).2.2 (.inr ⟨i, x, hx, e⟩)⟩⟩
      refine ⟨Ao, co, Do, dd, by dsimp only; rw [zf hok.flash, hok.len], (hO9.keep fun b hb _ _ => hk2 b hb).mono (by omega) (by simp), ?_⟩
      . exact (hBW.setCell (p := ⟨w.heap.size, 0, none⟩) nl _).setCell (p := ⟨w.heap.size, 1, none⟩) nl _
theorem Yp (es : List Ev) (V : Option Addr) (cs : Nat) (w : World) (hl : es.length < 1000000000000) (hX : Row w V (evs es)) :
 Calls Tryz.prog 6 #[.slice V es.length cs] w (qy (runR es) w) :=
 (Y3 es V cs w hl hX).mono fun _ _ q => q.post
end
end Go.Proofs.YtclnogfmmekooaaGreat
open Go.RowKit Go.IntWalk Go.Maps
namespace Go.Proofs.YtclnogfmmekooaaGreat
section
theorem OSt.flAt {w : World} {lo hi : Nat} {A D : Option Addr} {f : List Bk} {xs : List Int} (h : OSt w lo hi A f D xs) : FlAt w lo A f := by
 obtain ⟨hs, hBk, hApt, _, _⟩ := h
 exact ⟨hs, hBk, fun b hb => (hApt.fblk hb).1⟩
theorem zee (es : List Ev) (V : Option Addr) (cs : Nat) (w : World) (hl : es.length < 1000000000000) (hX : Row w V (evs es)) :
 Calls Tryz.prog 7 #[.slice V es.length cs] w (qy (runR es) w) := by
 by_cases h60 : 60 < es.length
 . have hfin : Hid (runR es = (st0, false)) := by unfold Hid runR; rw [if_pos h60]
   have h60' : (60 : Int) < es.length := by omega
   go_enter Tryz.func7, Tryz.ntmps7
   go_wp2
   refine bodyPost_ret (v := .tuple #[.agg #[.slice none 0 0, .slice none 0 0], .bool false]) (by simp [results, Tryz.results7, go_sem]) rfl ?_
   rw [hfin.out]
   exact qy.fail bw
 . have hfin : Hid (runR es = (yo es, true)) := by unfold Hid runR; rw [if_neg h60]
   have h60' : ¬ (60 : Int) < es.length := by omega
   go_enter Tryz.func7, Tryz.ntmps7
   go_wp2_with fail
   with_reducible refine (Jd _).mono ?_
   rintro e w1 ⟨A0, c0, D0, rfl, hc0, hO, hb1⟩
   have hs1 : w.heap.size + 1 ≤ w1.heap.size := by have := hb1.size; simpa using this
   have hB1 : Below w.heap.size w w1 := ((Below.refl _ _).alloc nl _).trans (hb1.mono (by simp))
   obtain ⟨hcc, hff⟩ := jr hb1
   have r0 : w1.cell? ⟨w.heap.size, 0, none⟩ = some (.slice none 0 0) := (hcc _ _ (by simp)).trans (by simp)
   have r1 : w1.cell? ⟨w.heap.size, 1, none⟩ = some (.slice none 0 0) := (hcc _ _ (by simp)).trans (by simp)
   have q0 : w1.frozen? ⟨w.heap.size, 0, none⟩ = false := (hff _ _ (by simp)).trans (by simp)
   have q1 : w1.frozen? ⟨w.heap.size, 1, none⟩ = false := (hff _ _ (by simp)).trans (by simp)
   replace hO : OSt w1 (w.heap.size + 1) w1.heap.size A0 new0.flash D0 new0.disk := hO.mono (by simp) nl
   have hO1 := hO.below (B := w1.heap.size) ((Below.refl _ _).alloc nl (.cells #[.slice A0 4 c0, .slice D0 6 6] 28)) nl
   have hX1 := hX.below hB1 nl
   clear hO hb1 hcc hff
   go_wp2
   go_loopw [5] (fun i wr => ∃ k : Nat, k ≤ es.length ∧ i = .int .i64 k ∧ OSt wr (w.heap.size + 1) w1.heap.size A0 (yo (es.take k)).flash D0 (yo (es.take k)).disk ∧ Below w.heap.size w wr ∧ w1.heap.size < wr.heap.size ∧
    (wr.cell? ⟨w.heap.size, 0, none⟩ = some (.slice none 0 0) ∧ wr.cell? ⟨w.heap.size, 1, none⟩ = some (.slice none 0 0) ∧ wr.frozen? ⟨w.heap.size, 0, none⟩ = false ∧ wr.frozen? ⟨w.heap.size, 1, none⟩ = false) ∧
    (wr.cell? ⟨w1.heap.size, 0, none⟩ = some (.slice A0 4 c0) ∧ wr.cell? ⟨w1.heap.size, 1, none⟩ = some (.slice D0 6 6) ∧ wr.frozen? ⟨w1.heap.size, 0, none⟩ = false ∧ wr.frozen? ⟨w1.heap.size, 1, none⟩ = false)) (fun i _ => es.length - (intOf i).toNat)
   case atStart => exact ⟨0, by omega, rfl, hO1, bw, by simp, ⟨y7 r0 _, y7 r1 _, fzP (by omega) q0 _, fzP (by omega) q1 _⟩, by simp⟩
   case round =>
    obtain ⟨k, hk, rfl, hOk, hB, hz, ⟨rr0, rr1, qq0, qq1⟩, ⟨o0, o1, f0, f1⟩⟩ := hrel
    clear hO1 r0 r1 q0 q1
    have hbs := hB.size
    by_cases hlt : k < es.length
    . obtain ⟨x, hx⟩ := zd hlt
      have hXr := hX.below hB nl
      obtain ⟨vb, vo, rfl⟩ := hXr.addr (by intro e; have := Xc es; rw [e] at this; simp at this; omega)
      obtain ⟨c0', c1', c2', c3', c4'⟩ := hXr.ev hx
      have hk1 : (k : Int) < es.length := by omega
      have e1 : IntKind.i64.wrap ((k : Int) + 1) = (k : Int) + 1 := IntWalk.i64_in _ (by omega)
      have hsn : Hid (yo (es.take (k + 1)) = doEv (yo (es.take k)) x) := by rw [Hid, List.take_add_one, hx]; exact zcz _ _
      have hst := (Qt (es.take k)).ok.fine
      clear hx hXr
      go_wp2
      have hle : w1.heap.size ≤ wr.drew.heap.size := by show w1.heap.size ≤ wr.heap.size; omega
      have hn0 : ¬ (w.heap.size + 1 ≤ w1.heap.size ∧ w1.heap.size < w1.heap.size) := by omega
      have hl0 : w1.heap.size < wr.drew.heap.size := by show w1.heap.size < wr.heap.size; omega
      have hOd := hOk.drew
      have g0 : wr.drew.cell? ⟨w1.heap.size, 0, none⟩ = some (.slice A0 4 c0) := o0
      have g1 : wr.drew.cell? ⟨w1.heap.size, 1, none⟩ = some (.slice D0 6 6) := o1
      have g2 : wr.drew.frozen? ⟨w1.heap.size, 0, none⟩ = false := f0
      have g3 : wr.drew.frozen? ⟨w1.heap.size, 1, none⟩ = false := f1
      go_region_with (first | (go_at_call 27; refine (zbj (yo (es.take k)) x A0 D0 c0 6 (w.heap.size + 1) w1.heap.size _ hst hle hOd).mono ?_; rintro e w2 ⟨rfl, hO2, hA2⟩; have d0 := (hA2.cell hl0 hn0 0).trans g0; have d1 := (hA2.cell hl0 hn0 1).trans g1; have d2 := (hA2.fz hl0 hn0 0).trans g2; have d3 := (hA2.fz hl0 hn0 1).trans g3))
      all_goals
       have hn1 : ¬ (w.heap.size + 1 ≤ w.heap.size ∧ w.heap.size < w1.heap.size) := by omega
       have hl1 : w.heap.size < wr.drew.heap.size := by show w.heap.size < wr.heap.size; omega
       have p0 := (hA2.cell hl1 hn1 0).trans (show wr.drew.cell? ⟨w.heap.size, 0, none⟩ = some (.slice none 0 0) from rr0)
       have p1 := (hA2.cell hl1 hn1 1).trans (show wr.drew.cell? ⟨w.heap.size, 1, none⟩ = some (.slice none 0 0) from rr1)
       have p2 := (hA2.fz hl1 hn1 0).trans (show wr.drew.frozen? ⟨w.heap.size, 0, none⟩ = false from qq0)
       have p3 := (hA2.fz hl1 hn1 1).trans (show wr.drew.frozen? ⟨w.heap.size, 1, none⟩ = false from qq1)
       have hs2 : wr.heap.size ≤ w2.heap.size := hA2.size
       have hB2 : Below w.heap.size w w2 := hB.drew.trans (hA2.below (B := w.heap.size) (by show w.heap.size ≤ wr.heap.size; omega) (fun i hi => by omega))
       rw [← hsn.out] at hO2
       have hW : xr w2 ((w2.setCell ⟨w1.heap.size, 0, none⟩ (.slice A0 4 c0)).setCell ⟨w1.heap.size, 1, none⟩ (.slice D0 6 6)) w1.heap.size 0 [.slice A0 4 c0, .slice D0 6 6] := zn w1.heap.size [.slice A0 4 c0, .slice D0 6 6] 0 w2 (fun j hj => by
        match j, hj with
        | 0, _ => exact ⟨_, d0⟩
        | 1, _ => exact ⟨_, d1⟩)
       have hO3 : OSt _ (w.heap.size + 1) w1.heap.size A0 (yo (es.take (k + 1))).flash D0 (yo (es.take (k + 1))).disk := hO2.keep fun b h1 h2 _ => hW.block b (by omega)
       have hB3 := hB2.trans (hW.agr.below (B := w.heap.size) (by omega) (fun i hi => by omega))
       have t0 := hW.new_ 0 _ rfl
       have t1 := hW.new_ 1 _ rfl
       have t2 := (hW.frozen ⟨w1.heap.size, 0, none⟩).trans d2
       have t3 := (hW.frozen ⟨w1.heap.size, 1, none⟩).trans d3
       have s0 := (hW.agr.cell (b := w.heap.size) (by omega) (by omega) 0).trans p0
       have s1 := (hW.agr.cell (b := w.heap.size) (by omega) (by omega) 1).trans p1
       have s2 := (hW.frozen ⟨w.heap.size, 0, none⟩).trans p2
       have s3 := (hW.frozen ⟨w.heap.size, 1, none⟩).trans p3
       have hss := hW.size
       clear hW
       go_wp2
       go_roundw
       (case rel => exact ⟨k + 1, by omega, by go_num, hO3, hB3, by omega, ⟨s0, s1, s2, s3⟩, ⟨t0, t1, t2, t3⟩⟩)
       (case measure => simp [intOf]; omega)
    . have hki : (es.length : Int) ≤ k := by omega
      have htk : es.take k = es := List.take_of_length_le (by omega)
      rw [htk] at hOk
      have hok := (Qt es).ok
      have HO := Lib.hid hOk
      clear hOk htk
      go_wp2
      refine bodyPost_ret (v := .tuple #[.agg #[.slice A0 4 c0, .slice D0 6 6], .bool true]) (by simp [results, Tryz.results7, go_sem, rr0, rr1]) rfl ?_
      rw [hfin.out]
      have hF : Agr (· = w.heap.size) wr ((wr.setCell ⟨w.heap.size, 0, none⟩ (.slice A0 4 c0)).setCell ⟨w.heap.size, 1, none⟩ (.slice D0 6 6)) := Agr.setCell (S := fun b => b = w.heap.size) (Agr.setCell (S := fun b => b = w.heap.size) (Agr.refl _ _) (p := ⟨w.heap.size, 0, none⟩) (.inr rfl) _) (p := ⟨w.heap.size, 1, none⟩) (.inr rfl) _
      have hOf := HO.out.keep (w' := (wr.setCell ⟨w.heap.size, 0, none⟩ (.slice A0 4 c0)).setCell ⟨w.heap.size, 1, none⟩ (.slice D0 6 6)) fun b h1 h2 hl => hF.block b hl (by omega)
      refine ⟨A0, c0, D0, 6, by dsimp only; rw [zf hok.flash, hok.len], ?_, hOf.disk, fun b hb => by have := hOf.dlo b hb; omega, hB.trans (hF.below (B := w.heap.size) (by omega) (fun i hi => by omega))⟩
      obtain ⟨hs, h1, h2⟩ := hOf.flAt
      exact ⟨hs, h1, fun b hb => by have := h2 b hb; omega⟩
end
section
open Go.RowKit Go.Maps
def zp5 : Value -> Nat
 | .slice _ n _ => n
 | _ => 0
theorem OwnE.out {w : World} {base : Nat} {v : Value} {xs : List Ev} (h : OwnE w base v xs) : ∃ A c, v = .slice A xs.length c ∧ Row w A (evs xs) ∧ (∀ b, blk A b -> base ≤ b ∧ b < w.heap.size) ∧ xs.length ≤ c := by
 have h' := h
 obtain ⟨hl, ⟨hv, hz⟩ | ⟨g, cap, cur, hv, hb, hh, hnc, hm, hs, ht⟩⟩ := h
 . have hxs : xs = [] := List.eq_nil_of_length_eq_zero hz
   subst hxs
   exact ⟨none, 0, hv, Row.nil _ _, (fun b hb => by cases hb), Nat.le_refl _⟩
 . refine ⟨some ⟨g, 0, none⟩, cap, hv, ?_, fun b hb' => ?_, hnc⟩
   . unfold OwnE at h'; rw [hv] at h'; exact Row.of_own h'
   . rw [zg] at hb'
     subst hb'
     exact ⟨hb, (Array.getElem?_eq_some_iff.1 hh).1⟩
def zpq (w : World) (e : Ending) (w' : World) : Prop :=
 ∃ (v : Value) (es : List Ev), e = .returned v ∧ OwnE w' w.heap.size v es ∧ es.length ≤ 61 ∧ (∀ x ∈ es, zar x) ∧ Below w.heap.size w w'
theorem Yz (A : Option Addr) (bs : List Nat) (c : Nat) (w : World) (hc : Code w A bs c) :
 Calls Tryz.prog 5 #[.slice A bs.length c] w (zpq w) := by
 obtain ⟨ib, hib, hbz0, hbz1, hbz2⟩ := info_parts Tryz.info3_event
 go_enter Tryz.func5, Tryz.ntmps5
 go_wp2_with fail
 refine (zge A bs c _ hc.len hc.cap hc.byte hc.row).mono ?_
 rintro e w1 ⟨rfl, hR1, hb1⟩
 have hs1 := hb1.size
 have hRl := hR1.lt
 go_wp2_with fail
 refine (zd5 _ _ 0 _ (by omega) hR1).mono ?_
 rintro e w2 ⟨v, A2, D2, c2, lo, hi, s, xs, rfl, hlo, hhi, hc2, hO, hst, hE, hxl, hxf, hR2, hA2⟩
 have hs2 := hA2.size
 have hlt : lo < hi := by
  obtain ⟨db, dO, rfl⟩ := hO.disk.addr (by intro e; have h1 := yu s.disk; rw [e] at h1; have h2 := hst.2.1; simp at h1; omega)
  obtain ⟨hs, _, _, _, h⟩ := hO
  have := h db (zg.2 rfl)
  omega
 have hE2 : OwnE w2 (w.heap.size + 1) v xs := hE.mono (by omega)
 have hB2 := hb1.trans (hA2.below (B := w.heap.size) (by omega) (fun i hi => by omega))
 have HX := Lib.hid hxf
 clear hE hO hst hA2 hb1 hxf
 obtain ⟨W2, hW2⟩ : ∃ W, W = w2.alloc (.cells #[.slice A2 4 c2, .slice D2 6 6] 28) := ⟨_, rfl⟩
 have hBW : Below w2.heap.size w2 W2 := by rw [hW2]; (repeat (first | (with_reducible exact Below.refl _ _) | (with_reducible assumption) | (refine Below.setCell ?_ (by first | omega | exact hB.size | exact hb.size | (have h := hB.size; simp; omega) | (have h := hb.size; simp; omega) | (simp; omega) | simp) _) | (refine Below.alloc ?_ (by first | omega | exact hB.size | exact hb.size | (have h := hB.size; simp; omega) | (have h := hb.size; simp; omega) | (simp; omega) | simp) _) | (refine Below.drew ?_)))
 have hsW := hBW.size
 have hR3 := hR2.below hBW nl
 have hE3 := hE2.below hBW nl
 have hB3 := hB2.trans (hBW.mono (by omega))
 have HW2 := Lib.hid hW2
 clear hBW hW2 hR2 hE2 hB2
 go_wp2_with fail
 rw [← HW2.out]
 refine (zq 40 40 _ _ (0 + 500) _ rfl (by omega) (by omega) (by omega) hR3).mono ?_
 rintro e w3 ⟨k, rfl, hk, hR4, hA4⟩
 have hs3 := hA4.size
 have hE4 : OwnE w3 (w.heap.size + 1) v xs := hE3.agr hA4 (by intro b h1 h2; omega)
 have hB4 := hB3.trans (hA4.below (B := w.heap.size) (by omega) (fun i hi => by omega))
 clear hA4 hB3 hE3 hR3
 by_cases hk0 : k = 0
 . subst hk0
   go_wp2
   go_loopw [4] (fun t wr => ∃ (p : Nat) (ys : List Ev), OwnE wr (w.heap.size + 1) t ys ∧ ys.length ≤ 61 ∧ Hid (∀ x ∈ ys, zar x) ∧ Rd wr w.heap.size w.heap.size p ∧ p + 7 * (61 - ys.length) ≤ 1000 ∧ Below w.heap.size w wr ∧ w.heap.size + 1 ≤ wr.heap.size) (fun t _ => 61 - zp5 t)
   case atStart => exact ⟨0 + 500 + 1, xs, hE4, by omega, HX, hR4, by omega, hB4, by omega⟩
   case round =>
    obtain ⟨p, ys, hEk, hyl, hY, hRk, hp, hBk, hsk⟩ := hrel
    clear hE4 hR4 hB4
    obtain ⟨Av, cv, rfl, hRow, hbk, hcv⟩ := hEk.out
    clear hRow hbk
    by_cases hlt : ys.length ≤ 60
    . have hlt' : (ys.length : Int) ≤ 60 := by omega
      go_wp2_with fail
      refine (Jb _ _ p _ (by omega) hRk).mono ?_
      rintro e w4 ⟨x, rfl, hx, hR5, hA5⟩
      have hs5 := hA5.size
      have hE5 : OwnE w4 (w.heap.size + 1) (.slice Av ys.length cv) ys := hEk.agr hA5 (by intro b h1 h2; omega)
      have hB5 := hBk.trans (hA5.below (B := w.heap.size) (by omega) (fun i hi => by omega))
      have hE6 := hE5.alloc (.cells #[.int .i64 x.kind, .int .i64 x.a, .int .i64 x.b, .int .i64 x.c, .bool x.torn] 33)
      have hR6 := hR5.alloc (.cells #[.int .i64 x.kind, .int .i64 x.a, .int .i64 x.b, .int .i64 x.c, .bool x.torn] 33)
      have hnews : ∀ j u, x.vs[j]? = some u -> (w4.alloc (.cells #[.int .i64 x.kind, .int .i64 x.a, .int .i64 x.b, .int .i64 x.c, .bool x.torn] 33)).cell? ((⟨w4.heap.size, 0, none⟩ : Addr).add j) = some u := (Row.new w4 #[.int .i64 x.kind, .int .i64 x.a, .int .i64 x.b, .int .i64 x.c, .bool x.torn] 33).news
      have hY2 := Lib.hid (show ∀ y ∈ ys ++ [x], zar y from fun y hy => by
       rcases List.mem_append.1 hy with hy | hy
       . exact hY.out y hy
       . rw [List.mem_singleton] at hy; subst hy; exact hx)
      have hQ : ∀ q, (Value.slice Av ys.length cv).ownBlock = some q -> w.heap.size + 1 ≤ q ∧ q < w4.heap.size := fun q e => World.ownsRow.lt hE5 q e
      clear hEk hRk hA5 hx hE5 hR5 hY
      go_wp2_with (at_builtin; refine wpList_append_lies _ rfl (.tmp 19) (.tmp 22) _ rfl (w.heap.size + 1) 33 ib _ 5 40 Tryz.underlying23 hib hbz0 hbz1 hbz2 rfl (by omega) (.slice Av ys.length cv) ys.length (evs ys) rfl hE6 ⟨w4.heap.size, 0, none⟩ 1 1 x.vs rfl rfl hnews (by simp [Value.oneCell', Ev.vs]) (by omega) (by unfold maxLen; omega) (by omega) (by simp; omega) (w4.heap.size + 1) (by simp) ?_; intro g2 c2 w7 hown2 hgrow2 hat2 hlt2)
      have hAg := (Agr.refl (fun b => (Value.slice Av ys.length cv).ownBlock = some b) _).grown hgrow2 (fun g hg => .inr hg)
      have hR7 : Rd w7 w.heap.size w.heap.size (p + 7) := hR6.agr hAg (fun e => by have := hQ _ e; omega) (fun b hb e => by have := hQ _ e; omega)
      have hz6 : (w4.alloc (.cells #[.int .i64 x.kind, .int .i64 x.a, .int .i64 x.b, .int .i64 x.c, .bool x.torn] 33)).heap.size = w4.heap.size + 1 := by simp
      have hB6 : Below w.heap.size w (w4.alloc (.cells #[.int .i64 x.kind, .int .i64 x.a, .int .i64 x.b, .int .i64 x.c, .bool x.torn] 33)) := hB5.alloc (by omega) _
      have hB7 := hB6.trans (hAg.below (B := w.heap.size) (by omega) (fun b hb => by have := hQ _ hb; omega))
      have hs7 := hAg.size
      have hE7 : OwnE w7 (w.heap.size + 1) (.slice (some ⟨g2, 0, none⟩) (ys.length + 1) c2) (ys ++ [x]) := OwnE.snoc rfl hown2
      clear hAg hB6 hB5 hE6 hR6 hnews hQ hown2 hgrow2 hat2
      go_wp2
      go_roundw
      (case rel => exact ⟨p + 7, ys ++ [x], hE7, by rw [List.length_append]; simp only [List.length_cons, List.length_nil]; omega, hY2, hR7, by rw [List.length_append]; simp only [List.length_cons, List.length_nil]; omega, hB7, by omega⟩)
      (case measure => simp [zp5]; omega)
    . have hlt' : ¬ (ys.length : Int) ≤ 60 := by omega
      go_wp2
      go_ret
      exact ⟨_, ys, rfl, hEk.mono (by omega), hyl, hY.out, hBk⟩
 . have hk1 : ¬ ((k : Int) = 0) := by omega
   have hk2 : ((k : Int) == 0) = false := by simpa using hk1
   go_wp2
   go_ret
   exact ⟨_, xs, rfl, hE4.mono (by omega), by omega, HX.out, hB4⟩
end
section
def zqi (a v : Int) (e : Ev) : Bool := decide (e.kind = 1) && (decide (e.a = a) && decide (e.b = v))
def zkb (es : List Ev) (a v : Int) : Prop := v = 0 ∨ es.any (zqi a v) = true
theorem zkb.more {es : List Ev} {a v : Int} (h : zkb es a v) (e : Ev) : zkb (es ++ [e]) a v := by
 rcases h with h | h
 . exact .inl h
 . exact .inr (by rw [List.any_append, h]; rfl)
def zcm (e : Ev) : Ev := { e with c := 60, torn := false }
end
section
open Go.RowKit Go.Maps
theorem OSt.agr {w w' : World} {lo hi : Nat} {A D : Option Addr} {f : List Bk} {xs : List Int} {S : Nat -> Prop} (h : OSt w lo hi A f D xs) (ha : Agr S w w') (hS : ∀ b, lo ≤ b -> b < hi -> ¬ S b) : OSt w' lo hi A f D xs := h.keep fun b h1 h2 hl => ha.block b hl (hS b h1 h2)
end
section
open Go.RowKit Go.Maps
structure Held (W : World) (bx : Nat) (A D : Option Addr) (n c m d : Nat) (s : St) : Prop where
 fl : Fl W A s.flash
 dk : Row W D (ints s.disk)
 x0 : W.cell? ⟨bx, 0, none⟩ = some (.slice A n c)
 x1 : W.cell? ⟨bx, 1, none⟩ = some (.slice D m d)
 hn : n = s.flash.length
 hm : m = s.disk.length
theorem Held.below {W X : World} {bx n c m d B : Nat} {A D : Option Addr} {s : St} (h : Held W bx A D n c m d s) (hb : Below B W X) (hB : W.heap.size ≤ B) : Held X bx A D n c m d s :=
 ⟨h.fl.below hb hB, h.dk.below hb hB, (hb.cell (p := ⟨bx, 0, none⟩) (Nat.lt_of_lt_of_le (ze h.x0) hB)).trans h.x0, (hb.cell (p := ⟨bx, 1, none⟩) (Nat.lt_of_lt_of_le (ze h.x1) hB)).trans h.x1, h.hn, h.hm⟩
theorem Held.new (w : World) {A D : Option Addr} {n c m d : Nat} {s : St} (hF : Fl w A s.flash) (hD : Row w D (ints s.disk)) (hn : n = s.flash.length) (hm : m = s.disk.length) : Held (w.alloc (.cells #[.slice A n c, .slice D m d] 28)) w.heap.size A D n c m d s :=
 ⟨hF.below ((Below.refl _ _).alloc nl _) nl, hD.alloc _, by simp, by simp, hn, hm⟩
theorem Held.drew {W : World} {bx n c m d : Nat} {A D : Option Addr} {s : St} (h : Held W bx A D n c m d s) : Held W.drew bx A D n c m d s := ⟨h.fl.drew', h.dk, h.x0, h.x1, h.hn, h.hm⟩
end
section
open Go.RowKit Go.Maps
def RunP (t : St) (w : World) (e : Ending) (w' : World) : Prop :=
 ∃ A c D d, e = .returned (.tuple #[.agg #[.slice A 4 c, .slice D 6 d], .bool true]) ∧ FlAt w' w.heap.size A t.flash ∧ Row w' D (ints t.disk) ∧ (∀ b, blk D b -> w.heap.size ≤ b) ∧ Below w.heap.size w w'
def NoP (w : World) (e : Ending) (w' : World) : Prop :=
 ∃ A c D d, e = .returned (.tuple #[.agg #[.slice A 0 c, .slice D 0 d], .bool false]) ∧ Below w.heap.size w w'
theorem qy.run {t : St} {w w' : World} {e : Ending} (ht : Okay t) (h : qy (t, true) w e w') : RunP t w e w' := by
 obtain ⟨A, c, D, d, rfl, h1, h2, h3, h4⟩ := h
 exact ⟨A, c, D, d, by dsimp only; rw [zf ht.flash, ht.len], h1, h2, h3, h4⟩
theorem qy.no {w w' : World} {e : Ending} (h : qy (st0, false) w e w') : NoP w e w' := by
 obtain ⟨A, c, D, d, rfl, h1, h2, h3, h4⟩ := h
 exact ⟨A, c, D, d, rfl, h4⟩
theorem zo4 {es : List Ev} (h : es.length ≤ 60) : runR es = (yo es, true) := by unfold runR; rw [if_neg (by omega)]
theorem zjg {t : St} (h : Okay t) : ∀ b ∈ t.flash, b.pages.length < 1000000000000 := fun b hb => by have := (zm h.flash b hb).1; omega
theorem Held.no (w : World) (A D : Option Addr) (c d : Nat) : Held (w.alloc (.cells #[.slice A 0 c, .slice D 0 d] 28)) w.heap.size A D 0 c 0 d st0 :=
 Held.new w (s := st0) ⟨[], rfl, Row.nil _ _, fun i b x h => by simp [st0] at h⟩ (Row.nil _ _) rfl rfl
theorem Held.ok {w : World} {t : St} (ht : Okay t) {A D : Option Addr} (c d : Nat) (hF : Fl w A t.flash) (hD : Row w D (ints t.disk)) : Held (w.alloc (.cells #[.slice A 4 c, .slice D 6 d] 28)) w.heap.size A D 4 c 6 d t :=
 Held.new w hF hD (zf ht.flash).symm ht.len.symm
theorem Held.put {W : World} {bx n c m d n' c' m' d' : Nat} {A D A' D' : Option Addr} {s t : St} (h : Held W bx A D n c m d s) (hF : FlAt W (bx + 1) A' t.flash) (hD : Row W D' (ints t.disk)) (hd : ∀ b, blk D' b -> bx + 1 ≤ b) (hn : n' = t.flash.length) (hm : m' = t.disk.length) :
 Held ((W.setCell ⟨bx, 0, none⟩ (.slice A' n' c')).setCell ⟨bx, 1, none⟩ (.slice D' m' d')) bx A' D' n' c' m' d' t := by
 have hW : xr W ((W.setCell ⟨bx, 0, none⟩ (.slice A' n' c')).setCell ⟨bx, 1, none⟩ (.slice D' m' d')) bx 0 [.slice A' n' c', .slice D' m' d'] := zn bx [.slice A' n' c', .slice D' m' d'] 0 W (fun j hj => by
  match j, hj with
  | 0, _ => exact ⟨_, h.x0⟩
  | 1, _ => exact ⟨_, h.x1⟩)
 refine ⟨?_, hD.keep fun b hb hl => hW.block b (by have := hd b hb; omega), hW.new_ 0 _ rfl, hW.new_ 1 _ rfl, hn, hm⟩
 exact (hF.keep (w' := (W.setCell ⟨bx, 0, none⟩ (.slice A' n' c')).setCell ⟨bx, 1, none⟩ (.slice D' m' d')) fun b hb hl => hW.block b (by omega)).fl
theorem FlAt.mono {w : World} {lo lo' : Nat} {A : Option Addr} {f : List Bk} (h : FlAt w lo A f) (hl : lo' ≤ lo) : FlAt w lo' A f := by
 obtain ⟨hs, h1, h2⟩ := h
 exact ⟨hs, h1, fun b hb => Nat.le_trans hl (h2 b hb)⟩
end
section
open Go.RowKit Go.Maps
theorem zpk (xs : List Ev) : ∀ u ∈ evs xs, u.oneCell' = true := fun u hu => by
 obtain ⟨x, _, hx⟩ := List.mem_flatMap.1 hu
 simp only [Ev.vs, List.mem_cons, List.not_mem_nil, or_false] at hx
 rcases hx with rfl | rfl | rfl | rfl | rfl <;> rfl
theorem zk1 {w w' : World} {base size n : Nat} {e : TypeId} {v : Value} {xs : List Value} (h : w.ownsRow base e size v n xs) (hb : base ≤ w.heap.size) (hg : w.grownBy w' v.ownBlock) : Below base w w' :=
 ((Agr.refl (fun b => v.ownBlock = some b) w).grown hg (fun g hg => .inr hg)).below hb (fun b hb => (World.ownsRow.lt h b hb).1)
theorem ziz {ops : Array Oper} {rest : List Oper} {o : Oper} {a : Act} {Q : Exit -> Act -> World -> Prop} {w : World} (hgd : o.guard = none) (s x : Operand)
 (ho : o.op = .call { callee := .builtin .append, args := #[s, x], argTypes := #[23, 23] }) (base : Nat) (v : Value) (ys xs : List Ev) (hs : a.eval s = v) (hO : OwnE w base v ys)
 (b p m n c : Nat) (hx : a.eval x = .slice (some ⟨b, p, none⟩) m c) (hm : m = xs.length) (hn : n = ys.length + m) (hR : Row w (some ⟨b, p, none⟩) (evs xs)) (h0 : 0 < m) (h63 : n ≤ 1000000) (hbase : base ≤ w.heap.size)
 (h : ∀ g cap w', OwnE w' base (.slice (some ⟨g, 0, none⟩) n cap) (ys ++ xs) -> Below base w w' -> wpList Tryz.prog ops Q rest (a.put o.dst (.slice (some ⟨g, 0, none⟩) n cap)) w') : wpList Tryz.prog ops Q (o :: rest) a w := by
 obtain ⟨ib, hib, hbz0, hbz1, hbz2⟩ := info_parts Tryz.info3_event
 subst hn; subst hm
 refine wpList_append_lies w hgd s x _ ho base 33 ib _ 5 40 Tryz.underlying23 hib hbz0 hbz1 hbz2 rfl (by omega) v ys.length (evs ys) hs hO ⟨b, p, none⟩ xs.length c (evs xs) hx (Xc xs) hR.news (zpk xs) h0 (by unfold maxLen; omega) (by omega) hbase w.heap.size rfl ?_
 intro g cap w' h1 h2 _ _
 refine h g cap w' ?_ (zk1 hO hbase h2)
 unfold OwnE
 rw [List.length_append, show evs (ys ++ xs) = evs ys ++ evs xs from List.flatMap_append]
 exact h1
theorem OwnI.one (w : World) (base : Nat) (x : Int) (hb : base ≤ w.heap.size) : OwnI (w.alloc (.cells #[.int .i64 x] 3)) base (.slice (some ⟨w.heap.size, 0, none⟩) 1 1) [x] := World.ownsRow_lit w #[.int .i64 x] 1 hb (by unfold maxLen; omega) rfl
def Zy (es : List Ev) (k : Nat) : List Ev := (es.take k).map zcm ++ es.drop k
theorem zf6 (es : List Ev) (k : Nat) : (Zy es k).length = es.length := by unfold Zy; rw [List.length_append, List.length_map, List.length_take, List.length_drop]; omega
theorem zf7 {es : List Ev} {k : Nat} {x : Ev} (h : es[k]? = some x) : (Zy es k)[k]? = some x := by
 have hl := (List.getElem?_eq_some_iff.1 h).1
 unfold Zy
 rw [List.getElem?_append_right (by rw [List.length_map, List.length_take]; omega), List.length_map, List.length_take, show k - min k es.length = 0 by omega, List.getElem?_drop]
 exact h
theorem zf5 {es : List Ev} {k : Nat} {x : Ev} (h : es[k]? = some x) : (Zy es k).set k (zcm x) = Zy es (k + 1) := by
 have hl := (List.getElem?_eq_some_iff.1 h).1
 unfold Zy
 rw [List.set_append_right _ _ (by rw [List.length_map, List.length_take]; omega), List.length_map, List.length_take, show k - min k es.length = 0 by omega, List.take_add_one, h, zu h]
 simp
theorem zfe : ∀ {l : List Ev} {k : Nat} {x : Ev}, l[k]? = some x -> evs (l.set k (zcm x)) = setL (evs l) (k * 5 + 3) [.int .i64 60, .bool false]
 | [], _, _, h => by simp at h
 | y :: l, 0, x, h => by simp at h; subst h; rfl
 | y :: l, k + 1, x, h => by
   have := zfe (l := l) (k := k) (x := x) (by simpa using h)
   show y.vs ++ evs (l.set k (zcm x)) = setL (y.vs ++ evs l) ((k + 1) * 5 + 3) _
   rw [this, show (k + 1) * 5 + 3 = y.vs.length + (k * 5 + 3) by simp [Ev.vs]; omega, yj]
theorem Row.whole {w w' : World} {b k : Nat} {es : List Ev} {x : Ev} (h : Row w (some ⟨b, 0, none⟩) (evs (Zy es k))) (hx : es[k]? = some x) (hW : xr w w' b (k * 5 + 3) [.int .i64 60, .bool false]) : Row w' (some ⟨b, 0, none⟩) (evs (Zy es (k + 1))) := by
 have hl := (List.getElem?_eq_some_iff.1 hx).1
 rw [← zf5 hx, zfe (zf7 hx)]
 refine xr.row (w := w) (by rw [Nat.zero_add]; exact hW) h ?_
 rw [Xc, zf6]
 simp
 omega
end
section
open Go.RowKit Go.Maps
theorem Row.part {w : World} {V : Option Addr} {xs ys : List Value} (h : Row w V (xs ++ ys)) : Row w V xs := fun hn => by
 obtain ⟨b, o, hV, hc⟩ := h (by intro e; exact hn (List.append_eq_nil_iff.1 e).1)
 refine ⟨b, o, hV, fun j u hj => hc j u ?_⟩
 rw [List.getElem?_append_left (List.getElem?_eq_some_iff.1 hj).1]; exact hj
theorem za5 {ops : Array Oper} {rest : List Oper} {o : Oper} {a : Act} {Q : Exit -> Act -> World -> Prop} {w : World} (hgd : o.guard = none) (s x : Operand)
 (ho : o.op = .call { callee := .builtin .append, args := #[s, x], argTypes := #[23, 23] }) (base : Nat) (v : Value) (ys xs : List Ev) (hs : a.eval s = v) (hO : OwnE w base v ys)
 (V : Option Addr) (m n c : Nat) (hx : a.eval x = .slice V m c) (hm : m = xs.length) (hn : n = ys.length + m) (hR : Row w V (evs xs)) (h63 : n ≤ 1000000) (hbase : base ≤ w.heap.size)
 (h : ∀ A cap w', OwnE w' base (.slice A n cap) (ys ++ xs) -> Below base w w' -> wpList Tryz.prog ops Q rest (a.put o.dst (.slice A n cap)) w') : wpList Tryz.prog ops Q (o :: rest) a w := by
 obtain ⟨ib, hib, hbz0, hbz1, hbz2⟩ := info_parts Tryz.info3_event
 by_cases h0 : xs = []
 . subst h0
   simp only [List.length_nil] at hm
   subst hm
   obtain ⟨A, cv, rfl, _, _, hcv⟩ := hO.out
   rw [Nat.add_zero] at hn
   subst hn
   rw [List.append_nil] at h
   exact Za hgd s x _ _ ho ib A V ys.length cv c Tryz.underlying23 hib hs hx hcv (h A cv w hO (Below.refl _ _))
 . have hlen : 0 < xs.length := List.length_pos_iff.2 h0
   obtain ⟨b, p, rfl⟩ := hR.addr (by intro e; have h1 := Xc xs; rw [e] at h1; simp at h1; omega)
   exact ziz hgd s x ho base v ys xs hs hO b p m n c hx hm hn hR (by omega) h63 hbase (fun g cap w' h1 h2 => h (some ⟨g, 0, none⟩) cap w' h1 h2)
theorem Row.evf {w : World} {b o k : Nat} {xs : List Ev} {x : Ev} (h : Row w (some ⟨b, o, none⟩) (evs xs)) (hk : xs[k]? = some x) : w.frozen? ⟨b, o + k * 5 + 3, none⟩ = false ∧ w.frozen? ⟨b, o + k * 5 + 4, none⟩ = false := by
 have hlt := (List.getElem?_eq_some_iff.1 hk).1
 obtain ⟨b', o', he, hc⟩ := h (by intro e; have := Xc xs; rw [e] at this; simp at this; omega)
 cases he
 have hg : ∀ j u, x.vs[j]? = some u -> j < 5 -> w.frozen? ⟨b, o + (k * 5 + j), none⟩ = false := fun j u hj hl => (hc (k * 5 + j) u (by rw [evs, jq _ 5 (fun _ => rfl) xs k j x hk hl]; exact hj)).2
 exact ⟨hg 3 _ rfl (by omega), hg 4 _ rfl (by omega)⟩
structure za2 (W : World) (bx : Nat) (A D : Option Addr) (c d : Nat) (s : St) : Prop where
 held : Held W bx A D 4 c 6 d s
 f0 : W.frozen? ⟨bx, 0, none⟩ = false
 f1 : W.frozen? ⟨bx, 1, none⟩ = false
theorem za2.below {W X : World} {bx c d B : Nat} {A D : Option Addr} {s : St} (h : za2 W bx A D c d s) (hb : Below B W X) (hB : W.heap.size ≤ B) : za2 X bx A D c d s :=
 ⟨h.held.below hb hB, (hb.frozen (p := ⟨bx, 0, none⟩) (Nat.lt_of_lt_of_le (ze h.held.x0) hB)).trans h.f0, (hb.frozen (p := ⟨bx, 1, none⟩) (Nat.lt_of_lt_of_le (ze h.held.x1) hB)).trans h.f1⟩
theorem za2.drew {W : World} {bx c d : Nat} {A D : Option Addr} {s : St} (h : za2 W bx A D c d s) : za2 W.drew bx A D c d s := ⟨h.held.drew, h.f0, h.f1⟩
theorem za2.new {w : World} {t : St} (ht : Okay t) {A D : Option Addr} (c d : Nat) (hF : Fl w A t.flash) (hD : Row w D (ints t.disk)) : za2 (w.alloc (.cells #[.slice A 4 c, .slice D 6 d] 28)) w.heap.size A D c d t :=
 ⟨Held.ok ht c d hF hD, by simp, by simp⟩
theorem za2.put {W : World} {bx c d c' d' lo : Nat} {A D A' D' : Option Addr} {s t : St} (h : za2 W bx A D c d s) (ht : Okay t) (hF : FlAt W lo A' t.flash) (hlo : bx < lo) (hD : Row W D' (ints t.disk)) (hd : ∀ b, blk D' b -> lo ≤ b) :
 za2 ((W.setCell ⟨bx, 0, none⟩ (.slice A' 4 c')).setCell ⟨bx, 1, none⟩ (.slice D' 6 d')) bx A' D' c' d' t := by
 have hW : xr W ((W.setCell ⟨bx, 0, none⟩ (.slice A' 4 c')).setCell ⟨bx, 1, none⟩ (.slice D' 6 d')) bx 0 [.slice A' 4 c', .slice D' 6 d'] := zn bx [.slice A' 4 c', .slice D' 6 d'] 0 W (fun j hj => by
  match j, hj with
  | 0, _ => exact ⟨_, h.held.x0⟩
  | 1, _ => exact ⟨_, h.held.x1⟩)
 exact ⟨h.held.put (hF.mono (by omega)) hD (fun b hb => by have := hd b hb; omega) (zf ht.flash).symm ht.len.symm, (hW.frozen _).trans h.f0, (hW.frozen _).trans h.f1⟩
end
section
def j6 (b : Bk) : Int := if most b = 0 then 1000 else most b
structure Even (f : List Bk) : Prop where
 whole : ∀ b ∈ f, ∀ p ∈ b.pages, p.state ≠ 2
 row : ∀ (i j : Nat) (b c : Bk), f[i]? = some b -> f[j]? = some c -> j6 b ≤ j6 c -> b.worn ≤ c.worn
 near : ∀ b ∈ f, ∀ c ∈ f, c.worn ≤ b.worn + 1
theorem zn1 : Even zx := by
 have hw : ∀ b ∈ zx, b = Ze := fun b hb => List.eq_of_mem_replicate hb
 refine ⟨fun b hb p hp => ?_, fun i j b c hb hc _ => ?_, fun b hb c hc => ?_⟩
 . rw [hw b hb] at hp
   have : p = pg0 := List.eq_of_mem_replicate (n := 4) hp
   rw [this]; decide
 . rw [hw b (List.mem_of_getElem? hb), hw c (List.mem_of_getElem? hc)]; exact Int.le_refl _
 . rw [hw b hb, hw c hc]; omega
theorem Y8 {f : List Bk} (h : zc f = true) {b : Bk} (hb : b ∈ f) : 0 ≤ most b ∧ most b ≤ 600 := by
 have hp := (xb h hb).2.2.2
 have h0 := Q2 hp
 by_cases hm : 0 < most b
 . exact ⟨h0, (Kq hp (yb hp hm)).2⟩
 . omega
theorem zlh {f : List Bk} (h : zc f = true) {b : Bk} (hb : b ∈ f) : j6 b ≤ 1000 := by
 have := Y8 h hb
 unfold j6; split <;> omega
theorem zlr {f : List Bk} (h : zc f = true) {b : Bk} (hb : b ∈ f) (hc : clean b = 0) (hw : ∀ p ∈ b.pages, p.state ≠ 2) : 0 < most b := by
 obtain ⟨l4, _, _, hp⟩ := xb h hb
 obtain ⟨p, hpm⟩ : ∃ p, p ∈ b.pages := by
  cases hps : b.pages with
  | nil => rw [hps] at l4; cases l4
  | cons p ps => exact ⟨p, List.mem_cons_self ..⟩
 have h0 : xm p = false := by
  have : b.pages.countP xm = 0 := hc
  rw [List.countP_eq_zero] at this
  simpa using this p hpm
 have h1 : p.state = 1 := by
  have h2 := hw p hpm
  have h3 := hp p hpm
  unfold xm at h0
  have h0' : p.state ≠ 0 := by simpa using h0
  unfold zp at h3
  by_cases h4 : p.state = 1
  . exact h4
  . rw [if_neg h4, if_neg (by rintro (e | e); exact h0' e; exact h2 e)] at h3; cases h3
 have hs : p.rc.seq ∈ xd b.pages := Xr.2 ⟨p, hpm, h1, rfl⟩
 have := y5 hp hs
 have := (Kq hp hs).1
 omega
theorem zn0 {f : List Bk} (h : zc f = true) (hO : Ord f) (hE : Even f) {i : Nat} {b : Bk} (hb : f[i]? = some b) {r : Rc} (hr : xk r = true) (hc : clean b ≠ 0) (hs : ∀ c ∈ f, most c < r.seq) : Even (f.set i (jf b r false)) := by
 have hbm := List.mem_of_getElem? hb
 obtain ⟨l4, _, _, hbp⟩ := xb h hbm
 obtain ⟨_, kp, _, _, k5⟩ := Z2 h hbm hr false hc
 have hnew := (zcu hbp kp (k5 rfl) (hs b hbm)).1
 have hra := xw hr
 have hk : j6 (jf b r false) = r.seq := by unfold j6; rw [hnew, if_neg (by omega)]
 have hwn : (jf b r false).worn = b.worn := rfl
 have hb1000 := zlh h hbm
 have hold : ∀ (j : Nat) (c : Bk), j ≠ i -> f[j]? = some c -> most c ≠ 0 -> j6 c ≤ j6 b := fun j c hj hcj h0 => by
  have c6 := Y8 h (List.mem_of_getElem? hcj)
  have e : j6 c = most c := by unfold j6; rw [if_neg h0]
  by_cases hb0 : most b = 0
  . have : j6 b = 1000 := by unfold j6; rw [if_pos hb0]
    omega
  . have e2 : j6 b = most b := by unfold j6; rw [if_neg hb0]
    have b6 := Y8 h hbm
    rcases zcf l4 hc with hp | h4
    . have := (hO.begun i j b c (Ne.symm hj) hb hcj hp).2 (by omega); omega
    . have := Q1 hbp (zay l4 h4); omega
 refine ⟨fun c hcm p hp => ?_, fun i' j a c ha hcj hl => ?_, fun c hcm d hdm => ?_⟩
 . rcases y6 hcm with hcm | rfl
   . exact hE.whole c hcm p hp
   . rcases List.mem_or_eq_of_mem_set hp with hp | rfl
     . exact hE.whole b hbm p hp
     . show (1 : Int) ≠ 2; decide
 . rcases getElem?_set_cases ha with ⟨rfl, rfl⟩ | ⟨hi, ha'⟩
   . rcases getElem?_set_cases hcj with ⟨_, rfl⟩ | ⟨hj, hcj⟩
     . exact Int.le_refl _
     . rw [hwn]
       refine hE.row _ _ b c hb hcj ?_
       rw [hk] at hl
       have := hs c (List.mem_of_getElem? hcj)
       have e : j6 c = 1000 := by
        unfold j6 at hl ⊢
        split
        . rfl
        . rename_i h0; rw [if_neg h0] at hl; omega
       rw [e]; exact hb1000
   . rcases getElem?_set_cases hcj with ⟨rfl, rfl⟩ | ⟨hj, hcj⟩
     . rw [hwn]
       rw [hk] at hl
       refine hE.row _ _ a b ha' hb (hold i' a hi ha' fun e => ?_)
       unfold j6 at hl
       rw [if_pos e] at hl
       omega
     . exact hE.row _ _ a c ha' hcj hl
 . rcases y6 hcm with hcm | rfl <;> rcases y6 hdm with hdm | rfl
   . exact hE.near c hcm d hdm
   . rw [hwn]; exact hE.near c hcm b hbm
   . rw [hwn]; exact hE.near b hbm d hdm
   . omega
theorem zf4 {f : List Bk} {i : Nat} {b : Bk} (hb : f[i]? = some b) : wipe f i false = f.set i ⟨List.replicate 4 pg0, b.worn + 1⟩ := by
 unfold wipe
 rw [ye hb]
 rfl
theorem zma {f : List Bk} (h : zc f = true) (hE : Even f) (hc : ∀ b ∈ f, clean b = 0) {i : Nat} {b : Bk} (hb : f[i]? = some b) (hmin : ∀ d ∈ f, most b ≤ most d) : Even (wipe f i false) := by
 have hbm := List.mem_of_getElem? hb
 have hw := zf4 hb
 rw [hw]
 have hpos : ∀ d ∈ f, 0 < most d := fun d hd => zlr h hd (hc d hd) (hE.whole d hd)
 have hkey : ∀ d ∈ f, j6 d = most d ∧ most d ≤ 600 := fun d hd => by
  have := hpos d hd
  have := Y8 h hd
  refine ⟨?_, by omega⟩
  unfold j6; rw [if_neg (by omega)]
 have hk : j6 (⟨List.replicate 4 pg0, b.worn + 1⟩ : Bk) = 1000 := rfl
 have hle : ∀ d ∈ f, b.worn ≤ d.worn := fun d hd => by
  obtain ⟨j, hj⟩ := List.mem_iff_getElem?.1 hd
  have := hmin d hd
  have h1 := hkey b hbm; have h2 := hkey d hd
  exact hE.row i j b d hb hj (by omega)
 refine ⟨fun c hcm p hp => ?_, fun i' j a c ha hcj hl => ?_, fun c hcm d hdm => ?_⟩
 . rcases y6 hcm with hcm | rfl
   . exact hE.whole c hcm p hp
   . have : p = pg0 := List.eq_of_mem_replicate (n := 4) hp
     rw [this]; decide
 . rcases getElem?_set_cases ha with ⟨rfl, rfl⟩ | ⟨hi, ha'⟩
   . rcases getElem?_set_cases hcj with ⟨_, rfl⟩ | ⟨hj, hcj⟩
     . exact Int.le_refl _
     . have := hkey c (List.mem_of_getElem? hcj)
       rw [hk] at hl; omega
   . rcases getElem?_set_cases hcj with ⟨rfl, rfl⟩ | ⟨hj, hcj⟩
     . exact hE.near b hbm a (List.mem_of_getElem? ha')
     . exact hE.row _ _ a c ha' hcj hl
 . rcases y6 hcm with hcm | rfl <;> rcases y6 hdm with hdm | rfl
   . exact hE.near c hcm d hdm
   . have := hle c hcm; show b.worn + 1 ≤ _; omega
   . have := hE.near b hbm d hdm; show _ ≤ b.worn + 1 + 1; omega
   . omega
def Thru (Q : St -> Prop) : St -> List Sp -> Prop
 | s, [] => Q s
 | s, x :: xs => Q s ∧ Thru Q (zr s x false) xs
theorem Thru.take {Q : St -> Prop} : ∀ {xs : List Sp} {s : St}, Thru Q s xs -> ∀ n, Q (zt s (xs.take n))
 | [], s, h, n => by simpa [zt] using (show Q s from h)
 | x :: xs, s, h, 0 => h.1
 | x :: xs, s, h, n + 1 => by
   have := Thru.take h.2 n
   rw [List.take_succ_cons]
   exact this
theorem Thru.to {Q : St -> Prop} {xs : List Sp} {s : St} (h : Thru Q s xs) (cut : Int) : Q (doTo s xs cut false) := by
 unfold doTo
 rw [if_neg (by rintro ⟨e, _⟩; cases e)]
 exact h.take _
theorem zi2 {s : St} {x : Sp} (h : x.kind = 1) : (zr s x false).flash = s.flash := by unfold zr; rw [if_pos h]; rfl
theorem Thru.tells {Q : List Bk -> Prop} {ys : List Sp} {f : List Bk} (hQ : Q f) (hy : ∀ t : St, t.flash = f -> Thru (fun t => Q t.flash) t ys) : ∀ (xs : List Sp) (s : St), (∀ x ∈ xs, x.kind = 1) -> s.flash = f -> Thru (fun t => Q t.flash) s (xs ++ ys)
 | [], s, _, hs => hy s hs
 | x :: xs, s, hx, hs => ⟨by dsimp only; rw [hs]; exact hQ, Thru.tells hQ hy xs _ (fun y hy => hx y (List.mem_cons_of_mem _ hy)) ((zi2 (hx x (List.mem_cons_self ..))).trans hs)⟩
theorem zfy {f : List Bk} (h : zc f = true) (hO : Ord f) (hE : Even f) (k a v : Int) : ∀ s : St, s.flash = f -> Thru (fun t => Even t.flash) s (wr f k a v) := by
 intro s hs
 have h4 := fun b hb => (zm h b hb).1
 have hl := zf h
 have hput : ∀ (t : St) (i : Nat) (b : Bk), zc t.flash = true -> Ord t.flash -> Even t.flash -> t.flash[i]? = some b -> clean b ≠ 0 -> xk ⟨k, next f, a, v⟩ = true -> (∀ c ∈ t.flash, most c < next f) -> Even (zr t ⟨3, 0, 0, i, ⟨k, next f, a, v⟩⟩ false).flash := by
  intro t i b g1 g2 g3 g4 g5 g6 g7
  have hnot := Jf g1 (s := next f) g7
  have e : (zr t ⟨3, 0, 0, i, ⟨k, next f, a, v⟩⟩ false).flash = t.flash.set i (jf b ⟨k, next f, a, v⟩ false) := by
   unfold zr
   rw [if_neg (by dsimp only; decide), if_neg (by dsimp only; decide), if_pos rfl]
   dsimp only
   rw [Int.toNat_natCast]
   unfold xv
   rw [ye g4, if_neg (by rintro (e | e); exact g5 e; exact hnot e)]
   rfl
  rw [e]
  exact zn0 g1 g2 g3 g4 g6 g5 g7
 unfold wr
 by_cases hc : (room f).2.2 = false ∨ xk ⟨k, next f, a, v⟩ = false
 . rw [if_pos hc]; show Even s.flash; rw [hs]; exact hE
 . rw [if_neg hc]
   have hr : xk ⟨k, next f, a, v⟩ = true := by simpa using fun e => hc (.inr e)
   have hroom : (room f).2.2 ≠ false := fun e => hc (.inl e)
   clear hc
   by_cases ho : (kz f).2 = true
   . obtain ⟨m, b, h1, hb, hcb, _⟩ := zeq h hO (by rw [← Ka h4]; exact ho)
     have hob : (kz f).1 = m := by rw [Ka h4, h1]
     unfold room
     rw [if_pos ho, hob]
     dsimp only
     rw [List.nil_append]
     exact ⟨by show Even s.flash; rw [hs]; exact hE, hput s m b (by rw [hs]; exact h) (by rw [hs]; exact hO) (by rw [hs]; exact hE) (by rw [hs]; exact hb) hcb hr (by rw [hs]; exact fun c hc => zd1 hc)⟩
   . have ho' : (kz f).2 = false := by simpa using ho
     have h0 := Qx h ho'
     have hi := Ju hl
     obtain ⟨b, hb⟩ := zd (l := f) (k := old f) (by omega)
     have hmin := zk6 h hb
     unfold room at hroom ⊢
     rw [if_neg ho] at hroom ⊢
     dsimp only at hroom ⊢
     rw [ye hb] at hroom ⊢
     have hw : b.worn < 200 := by simpa using hroom
     rw [List.append_assoc]
     refine Thru.tells (Q := Even) hE (fun t ht => ?_) _ s (fun x hx => ?_) hs
     . have hst : (zr t ⟨2, 0, 0, (old f : Nat), rc0⟩ false).flash = wipe f (old f) false := by
        unfold zr
        rw [if_neg (by dsimp only; decide), if_pos rfl]
        dsimp only
        unfold j9
        rw [Int.toNat_natCast, ht, ye hb, if_neg (by omega)]
       have hEw := zma h hE h0 hb hmin
       have hok' := Y7 h hi false (by rw [ye hb]; omega)
       have hnn : ∀ c ∈ f, 0 ≤ most c := fun c hc => Q2 (xb h hc).2.2.2
       have hbw : (wipe f (old f) false)[old f]? = some ⟨List.replicate 4 pg0, b.worn + 1⟩ := zj8 hb false
       refine ⟨by show Even t.flash; rw [ht]; exact hE, by show Even (zr t ⟨2, 0, 0, (old f : Nat), rc0⟩ false).flash; rw [hst]; exact hEw, ?_⟩
       refine hput _ (old f) _ (by rw [hst]; exact hok') (by rw [hst]; exact zh1 hO hnn _ _) (by rw [hst]; exact hEw) (by rw [hst]; exact hbw) (by rw [zfo]; decide) hr fun c hc => ?_
       rw [hst] at hc
       unfold wipe at hc
       rcases y6 hc with hc | rfl
       . exact zd1 hc
       . have h1 := (Jr false ((f.getD (old f) zbk).worn + 1)).1
         have h2 := Z3 f
         rw [h1]; omega
     . unfold tells at hx
       obtain ⟨p, _, rfl⟩ := List.mem_map.1 hx
       rfl
theorem zb6 {s : St} (h : Okay s) (hE : Even s.flash) (a : Int) : Thru (fun t => Even t.flash) s (kg s a) := by
 unfold kg
 split
 . exact hE
 . split
   . exact hE
   . exact ⟨hE, zfy h.flash h.isOrd hE 2 a (xh s a) _ rfl⟩
theorem zl4 {s : St} (h : Okay s) (hE : Even s.flash) (a : Int) : Thru (fun t => Even t.flash) s (fill s a) := by
 unfold fill
 split
 . exact hE
 . exact zfy h.flash h.isOrd hE 2 a _ s rfl
theorem zi3 {s : St} (h : Okay s) (hE : Even s.flash) (e : Ev) : Thru (fun t => Even t.flash) s (zz s e) := by
 unfold zz
 split
 . exact zfy h.flash h.isOrd hE 1 e.a e.b s rfl
 . split
   . exact zb6 h hE e.a
   . split
     . exact zl4 h hE e.a
     . exact hE
theorem zmh {s : St} (h : Okay s) (hE : Even s.flash) {e : Ev} (ht : e.torn = false) : Even (doEv s e).flash := by
 have key : ∀ (l : List Int) (s : St), (∀ a ∈ l, 1 ≤ a ∧ a ≤ 6) -> Okay s -> Even s.flash -> Even (l.foldl kt s).flash := by
  intro l
  induction l with
  | nil => exact fun s _ _ hE => hE
  | cons a l ih =>
    intro s hl h hE
    rw [List.foldl_cons]
    refine ih _ (fun b hb => hl b (List.mem_cons_of_mem _ hb)) (K4 h (hl a (List.mem_cons_self ..))).ok ?_
    exact (zb6 h hE a).to _
 unfold doEv
 split
 . unfold j4
   exact key _ s (fun a ha => by simp only [List.mem_cons, List.not_mem_nil, or_false] at ha; omega) h hE
 . split
   . exact hE
   . rw [ht]; exact (zi3 h hE e).to _
theorem zm7 {es : List Ev} (h : ∀ e ∈ es, e.torn = false) : Okay (yo es) ∧ Even (yo es).flash := by
 have key : ∀ (l : List Ev) (s : St), (∀ e ∈ l, e.torn = false) -> Okay s -> Even s.flash -> Okay (l.foldl doEv s) ∧ Even (l.foldl doEv s).flash := by
  intro l
  induction l with
  | nil => exact fun s _ h hE => ⟨h, hE⟩
  | cons e l ih =>
    intro s hl h hE
    rw [List.foldl_cons]
    exact ih _ (fun b hb => hl b (List.mem_cons_of_mem _ hb)) (Jo h e).ok (zmh h hE (hl e (List.mem_cons_self ..)))
 exact key es new0 h zh3 zn1
end
section
open Go.RowKit Go.WideShapes Go.ChangeShapes
section
variable {H : Type} {enc : TypeId × Value -> H} {P : Program}
theorem zkk {t : TypeId} (hl : laidOutB P = true) (hr : P.readableRec t = true) (hrow : t < P.types.size) {W W' : World} {v : Value} {d : DataW H} {ps qs : List MemPlace} {sp : Nat -> Bool}
 (h : DataW.Trod enc P W 0 (fun _ => true) true t v d ps) (hb : Below W.heap.size W W') (hlt : ∀ x ∈ qs, x.block < W.heap.size) (hsp : ∀ p ∈ qs, sp p.block = true) (hq : ∀ x ∈ ps, x ∈ qs) : DataW.Trod enc P W' 0 sp true t v d ps :=
 WideElems.Trod_stays hl hr hrow h (fun x hx => hb.same (hlt x (hq x hx))) (fun x hx => hsp x (hq x hx))
theorem zc2 {f : Func} {s : ChangeSpec} {apart fresh handsOn again : Bool} {W W' : World} {args : Array Value} {v : Value} {ds gs : List (DataW H)} {before pa pv : List MemPlace}
 (hW : DataW.Whole enc P f.params.toList s.vars apart W args.toList ds gs before)
 (hres : ∀ (b : Nat) (sp : Nat -> Bool) (hd : Bool), DataW.TrodAll enc P W' b sp hd f.resultTypes.toList (v.resultList f.resultTypes.size) (s.fn H (ds ++ gs)).results [])
 (hargs : ∀ sp : Nat -> Bool, (∀ p ∈ before, sp p.block = true) -> DataW.TrodAll enc P W' 0 sp true f.params.toList args.toList (s.fn H (ds ++ gs)).args pa)
 (hvars : ∀ sp : Nat -> Bool, (∀ p ∈ before, sp p.block = true) -> DataW.TrodVars enc P W' sp s.vars (s.fn H (ds ++ gs)).vars pv)
 (hps : before = pa ++ pv) (hb : Below W.heap.size W W')
 (hok : ∀ (j : Nat) (t : TypeId) (r : Value), f.resultTypes[j]? = some t -> (v.resultList f.resultTypes.size)[j]? = some r -> Value.okWide P W' .any 0 t r) :
 s.post enc P f apart fresh handsOn again W args v W' := by
 have hlt : ∀ p ∈ before, p.block < W.heap.size := fun p hp => hW.lt p hp
 have hold : ∀ p ∈ before, (fun b => decide (b < W.heap.size)) p.block = true := fun p hp => by simpa using hlt p hp
 refine ⟨ds, gs, before, [], pa, pv, hW, hres _ _ _, hargs _ hold, hvars _ hold, World.keptBut_mono (fun p hp => ⟨hp, ?_⟩) (hb.frame (· ∈ before)), fun _ => ?_⟩
 . rw [hps, List.mem_append] at hp
   exact Or.inr hp
 . obtain ⟨_, _, _, _, _, hz, hn⟩ := hW
   refine ⟨hok, _, _, ([] ++ pa) ++ pv, ⟨[] ++ pa, pv, trodAll_append (hargs _ (fun _ _ => rfl)) (hres _ _ _), hvars _ (fun _ _ => rfl), rfl, ?_, ?_⟩, ?_⟩
   . intro b off hp
     have hin : MemPlace.cell b off ∈ before := by rw [hps]; simpa using hp
     rw [hb.frozen (hlt _ hin)]
     exact hz b off hin
   . intro ha
     have := hn ha
     rw [hps] at this
     simpa using this
   . intro p hp _
     rw [hps]
     simpa using hp
end
end
section
open Go.Conc
theorem zjm {H : Type} {enc : TypeId × Value -> H} {a : Assume} {C : Checked} {os : Os} {f : FuncId} {fn : Func} {s : ChangeSpec} {conds : List PathCond} {apart fresh handsOn again : Bool}
 (own : ownKnob C.prog.godebug = none) (started : os.Started) (hfn : C.prog.funcs[f]? = some fn)
 (wit : ∃ (w : World) (tape : Tape) (i : Input), w.os = os ∧ (w.forCall tape i).Shaped C.prog ∧ i.vars = [] ∧ Input.okWide C.prog (w.forCall tape i) .any w.heap.size f i ∧
  s.pre6 enc C.prog fn conds apart (w.forCall tape i).memory i.args ∧ a.holds C.prog (lone (Frame.enter C.prog f i.args .normal) [] (w.forCall tape i)))
 (runs : ∀ (W : World) (base : Nat) (args : Array Value) (ds gs : List (DataW H)) (before : List MemPlace),
  (∀ (j : Nat) t v, fn.params[j]? = some t -> args[j]? = some v -> Value.okWide C.prog W .any base t v) -> DataW.Whole enc C.prog fn.params.toList s.vars apart W args.toList ds gs before ->
  ∃ M last o w' t', runNT C.prog (M + 1) (solo (G (Frame.enter C.prog f args .normal) []) W) #[] = (.ended o w', t') ∧ runN C.prog M (solo (G (Frame.enter C.prog f args .normal) []) W) = .next last ∧
    step C.prog last = .ended o w' ∧ Conc.Good C.prog (fun v W' => s.post enc C.prog fn apart fresh handsOn again W args v { W' with tape := W.tape }) last o w' t') :
 ReturnsInLeavingWide a C os f .any (s.pre6 enc C.prog fn conds apart) (s.post enc C.prog fn apart fresh handsOn again) := by
 refine returnsInLeavingWide_of_good own started wit fun w tape i _ _ _ hok hpre _ => ?_
 obtain ⟨_, _, _, fn', h1, _, _, _, _, hval⟩ := hok
 obtain rfl : fn = fn' := Option.some.inj (hfn.symm.trans h1)
 obtain ⟨⟨ds, gs, before, hw, _⟩, _⟩ := hpre
 obtain ⟨M, last, o, w', t', g1, g2, g3, g4⟩ := runs (w.forCall tape i) w.heap.size i.args ds gs before hval (DataW.Whole.of_heap (w' := w.forCall tape i) (by rfl) hw)
 refine ⟨M, last, o, w', t', g1, g2, g3, g4.mono fun v hp => ?_⟩
 have := ChangeSpec.post_blind hp
 exact this
end
section
open Go.RowKit Go.ChangeShapes Go.WideShapes Go.Deep
section
variable {H : Type} {enc : TypeId × Value -> H} {w : World} {base fuel : Nat} {spare : Nat -> Bool} {held : Bool}
theorem zgn {w : World} {a : Addr} {u : Value} (h : w.cell? a = some u) : ∃ b o, a = ⟨b, o, none⟩ := by
 obtain ⟨b, o, s⟩ := a
 cases s with
 | none => exact ⟨b, o, rfl⟩
 | some s =>
   have : w.cell? ⟨b, o, some s⟩ = none := by
    unfold World.cell?
    split
    . exact if_pos rfl
    . rfl
   rw [this] at h; cases h
theorem zj1 : Tryz.prog.cellsOf 5 = 1 := by kernel_rfl
theorem zn8 {cs : List Value} {x : DataW H × List MemPlace} (h : DataW.trod enc Tryz.prog w base spare held fuel 22 cs = some x) : ∃ A c bs, cs = [.slice A (List.length bs) c] ∧ Code w A bs c := by
 rcases open_ints Tryz.underlying22 Tryz.underlying5 zj1 h with ⟨rfl, _⟩ | ⟨a, len, cap, zs, rfl, _, hlc, hcm, hzl, _, hcell, hwf⟩
 . exact ⟨none, 0, [], rfl, ⟨Nat.le_refl _, by omega, by simp, fun h => absurd rfl h⟩⟩
 . have hlz : len ≤ zs.length := by rw [hzl]; split <;> omega
   have hz : ∀ i, i < zs.length -> zs.getD i 0 ∈ zs := fun i hi => by
    rw [List.getD_eq_getElem?_getD, List.getElem?_eq_getElem hi]
    exact List.getElem_mem hi
   have hr : ∀ n ∈ zs, 0 ≤ n ∧ n < 256 := fun n hn => by
    have := hwf n hn
    have h1 : IntKind.u8.min = 0 := rfl
    have h2 : IntKind.u8.max = 255 := rfl
    change (decide (IntKind.u8.min ≤ n) && decide (n ≤ IntKind.u8.max)) = true at this
    rw [h1, h2] at this
    simp at this
    omega
   refine ⟨some a, cap, (List.range len).map fun i => (zs.getD i 0).toNat, by simp, ⟨by simpa using hlc, by unfold maxLen at hcm; omega, fun b hb => ?_, fun hne => ?_⟩⟩
   . obtain ⟨i, hi, rfl⟩ := List.mem_map.1 hb
     have := hr _ (hz i (by have := List.mem_range.1 hi; omega))
     omega
   . have hn : 0 < len := by
      rcases Nat.eq_zero_or_pos len with h0 | h0
      . rw [h0] at hne; simp [bytes] at hne
      . exact h0
     have h0 := hcell 0 (by omega)
     obtain ⟨b, o, rfl⟩ := zgn (a := a) (by simpa [Addr.add] using h0)
     refine ⟨b, o, rfl, fun j u hj => ?_⟩
     have hjl : j < len := by
      have := (List.getElem?_eq_some_iff.1 hj).1
      simpa [bytes] using this
     have hc := hcell j (by omega)
     rw [Qd] at hc
     rw [hc]
     have hb := hr _ (hz j (by omega))
     rw [bytes, List.getElem?_map, List.getElem?_map, List.getElem?_range hjl] at hj
     simp only [Option.map_some, Option.some.injEq] at hj
     rw [← hj]
     have : (((zs.getD j 0).toNat : Nat) : Int) = zs.getD j 0 := by omega
     rw [this]
end
end
end Go.Proofs.YtclnogfmmekooaaGreat
