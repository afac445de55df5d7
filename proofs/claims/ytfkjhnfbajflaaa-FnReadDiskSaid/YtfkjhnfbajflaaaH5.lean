/- Walks: the program's own iterator over all pages of a flash. -/
import Derived.RangeFuncNested
import Derived.RangeFuncBound
import Derived.RangeFuncCalls
import Derived.RangeFuncLeaves
import Derived.Shelf.Abstract
import Derived.Shelf.RegionOpen
import Derived.OwnWalkIn
import Derived.TacticsInMore
import Derived.LoopNIn
import Derived.LoopIn
import Derived.Test.YtfkjhnfbajflaaaG3
namespace Go.Proofs.Ytfkjhnfbajflaaa
set_option linter.unusedVariables false
set_option linter.unusedSimpArgs false
open Go.RowKit Go.Shelf
attribute [local go_sem] Oper.semAt_some
set_option maxHeartbeats 400000
abbrev PgAt := Nat × Nat × Pg
def tagFrom (i : Nat) : Nat → List Pg → List PgAt
  | _, [] => []
  | j, p :: ps => (i, j, p) :: tagFrom i (j + 1) ps
def allFrom : Nat → List Bk → List PgAt
  | _, [] => []
  | i, b :: f => tagFrom i 0 b.pages ++ allFrom (i + 1) f
def encP (x : PgAt) : Array Value := #[.agg #[.int .i64 (x.1 : Int), .int .i64 (x.2.1 : Int)], .agg #[.int .i64 x.2.2.state, .int .i64 x.2.2.rc.kind, .int .i64 x.2.2.rc.seq, .int .i64 x.2.2.rc.addr, .int .i64 x.2.2.rc.val]]
theorem all_next {f : List Bk} {k : Nat} {B : Bk} (h : f[k]? = some B) : allFrom k (f.drop k) = tagFrom k 0 (B.pages.drop 0) ++ allFrom (k + 1) (f.drop (k + 1)) := by rw [drop_cons h]; rfl
theorem tag_next {ps : List Pg} {i m : Nat} {p : Pg} (h : ps[m]? = some p) : tagFrom i m (ps.drop m) = (i, m, p) :: tagFrom i (m + 1) (ps.drop (m + 1)) := by rw [drop_cons h]; rfl
set_option maxRecDepth 100000 in
set_option maxHeartbeats 4000000 in
theorem eachPage1_in (F : Fence) (n : Nat) (hF : F.fn 67) (hro : F.round = none) (hn : 1 ≤ n) (l Bs n₀ g o c : Nat) (f : List Bk) (hs : List (Option Addr × Nat)) (J Jx : List PgAt → World → Prop)
    (W : World) (hn₀ : n₀ ≤ W.heap.size) (hJ : AbidesFrom W.heap.size J)
    (hY : ∀ pre (x : PgAt) W1, J pre W1 → pre.length < (allFrom 0 f).length → x.1 < f.length ∧ x ∈ allFrom 0 f → YieldAt F (n - 1) Try.prog l (encP x) W1 fun e W' =>
      (e = .returned (.bool true) ∧ J (pre ++ [x]) W' ∧ Below n₀ W1 W') ∨ (e = .returned (.bool false) ∧ Jx (pre ++ [x]) W'))
    (hBs : W.cell? ⟨Bs, 0, none⟩ = some (.slice (some ⟨g, o, none⟩) f.length c)) (hl : f.length < 1000000000000) (hp : ∀ b ∈ f, b.pages.length < 1000000000000)
    (hBk : Bks W (some ⟨g, o, none⟩) f hs) (hlow : ∀ b, fblk (some ⟨g, o, none⟩) hs b → b < n₀) (h0 : J [] W) :
    CallsIn F n Try.prog 67 #[.func (.yield l) #[] #[], .pointer (some ⟨Bs, 0, none⟩)] W fun e W' => (∃ v, e = .returned v) ∧
      ((∃ ys, ys = allFrom 0 f ∧ J ys W') ∨ (∃ pre, pre <+: allFrom 0 f ∧ Jx pre W')) := by
  have HP := Lib.hid hp
  have HLOW := Lib.hid hlow
  have hT0 : Hid (allFrom 0 f = [] ++ allFrom 0 (f.drop 0)) := rfl
  have hJa : ∀ pre (V : World) (o : Obj), J pre V → J pre (V.alloc o) := fun pre V o h => hJ pre V _ none h (World.grownBy_alloc V o none) (fun r e => by cases e)
  have HJA := Lib.hid hJa
  clear hp hlow hJa hJ
  refine callsIn_of_wp Try.func67 rfl hF ?_ hro
  simp only [Try.ntmps67, List.size_toArray, List.length_cons, List.length_nil, Nat.reduceAdd, Nat.reduceSub, Array.replicate_succ, Array.replicate_zero, List.push_toArray, List.append_toArray, List.nil_append, List.cons_append]
  gi_wp2
  gi_loopw [9] (fun i wr => ∃ (k : Nat) (pre : List PgAt), k ≤ f.length ∧ i = .int .i64 k ∧ J pre wr ∧ Below n₀ W wr ∧ Hid (allFrom 0 f = pre ++ allFrom k (f.drop k)))
    (fun i _ => f.length - (intOf i).toNat)
  case atStart => exact ⟨0, [], Nat.zero_le _, rfl, h0, Below.refl _ _, hT0⟩
  case round =>
    clear hT0
    obtain ⟨k, pre, hk, rfl, hJs, hB, hT⟩ := hrel
    by_cases hlt : k < f.length
    · obtain ⟨B, hb⟩ := get_some hlt
      have hBkr : Bks wr (some ⟨g, o, none⟩) f hs := hBk.keep fun q hq hl => hB.block q (HLOW.out q (by
        rcases hq with hq | ⟨x, hx, hq⟩
        · exact .inl hq
        · obtain ⟨i, hi⟩ := List.getElem?_of_mem hx
          exact .inr ⟨i, x, hi, hq⟩))
      obtain ⟨⟨Ap, cp⟩, _, z0, z1, _, _, _, _⟩ := hBkr.at_ hb
      have hT1 : Hid (allFrom 0 f = pre ++ (tagFrom k 0 (B.pages.drop 0) ++ allFrom (k + 1) (f.drop (k + 1)))) := by rw [Hid, hT.out, all_next hb]
      have hpl := HP.out B (List.mem_of_getElem? hb)
      have hk1 : (k : Int) < f.length := by omega
      have HB := Lib.hid hb
      have hJb := HJA.out pre wr (.cells #[.slice Ap B.pages.length cp, .int .i64 B.worn] 53) hJs
      have hBb : Below n₀ W (wr.alloc (.cells #[.slice Ap B.pages.length cp, .int .i64 B.worn] 53)) := hB.alloc (by have := hB.size; omega) _
      dsimp only at *
      clear hb hBkr hT
      gi_wp2
      gi_loopw [17] (fun j wl => ∃ (m : Nat) (pre2 : List PgAt), m ≤ B.pages.length ∧ j = .int .i64 m ∧ J pre2 wl ∧ Below n₀ W wl ∧ Hid (allFrom 0 f = pre2 ++ (tagFrom k m (B.pages.drop m) ++ allFrom (k + 1) (f.drop (k + 1)))))
        (fun j _ => B.pages.length - (intOf j).toNat)
      case atStart => exact ⟨0, pre, Nat.zero_le _, rfl, hJb, hBb, hT1⟩
      case round =>
        clear hT1 hJb hBb z0 z1
        obtain ⟨m, pre2, hm, rfl, hJm, hBm, hTm⟩ := hrel
        by_cases hltm : m < B.pages.length
        · obtain ⟨p, hq⟩ := get_some hltm
          have hBkm := hBk.keep (fun q hq hl => hBm.block q (HLOW.out q (by
            rcases hq with hq | ⟨x, hx, hq⟩
            · exact .inl hq
            · obtain ⟨i, hi⟩ := List.getElem?_of_mem hx
              exact .inr ⟨i, x, hi, hq⟩)))
          have hRm := (hBkm.pg k B _ HB.out (by assumption)).1
          obtain ⟨pb, po, rfl⟩ := hRm.addr (pgs_ne (by intro e; rw [e] at hltm; simp at hltm))
          obtain ⟨c0, c1, c2, c3, c4⟩ := hRm.pg hq
          have hm1 : (m : Int) < B.pages.length := by omega
          have hJp := HJA.out pre2 _ (.cells #[.int .i64 p.state, .int .i64 p.rc.kind, .int .i64 p.rc.seq, .int .i64 p.rc.addr, .int .i64 p.rc.val] 59) hJm
          have hBp := hBm.alloc (by have := hBm.size; omega) (.cells #[.int .i64 p.state, .int .i64 p.rc.kind, .int .i64 p.rc.seq, .int .i64 p.rc.addr, .int .i64 p.rc.val] 59)
          have hT2 : Hid (allFrom 0 f = (pre2 ++ [(k, m, p)]) ++ (tagFrom k (m + 1) (B.pages.drop (m + 1)) ++ allFrom (k + 1) (f.drop (k + 1)))) := by
            rw [Hid, hTm.out, tag_next hq, List.append_assoc]; rfl
          have hlen : pre2.length < (allFrom 0 f).length := by rw [hT2.out, List.length_append, List.length_append]; simp; omega
          obtain ⟨fn, tmps, assign, body, hy, hR⟩ := hY pre2 (k, m, p) _ hJp hlen ⟨hlt, by rw [hT2.out]; simp⟩
          dsimp only [encP] at hy
          clear hq hlen hTm hJm
          gi_wp2
          refine hR.mono ?_
          rintro e W3 (⟨rfl, hJ3, hk3⟩ | ⟨rfl, hJx3⟩)
          · gi_wp2
            go_roundw
            case rel => exact ⟨m + 1, pre2 ++ [(k, m, p)], by omega, by simp, hJ3, hBp.trans hk3, hT2⟩
            case measure => simp [intOf]; omega
          · gi_wp2
            refine bodyPost_ret (results_none rfl _ _ _) rfl ?_
            exact ⟨⟨_, rfl⟩, .inr ⟨_, by rw [hT2.out]; exact List.prefix_append _ _, hJx3⟩⟩
        · obtain rfl : m = B.pages.length := by omega
          have hT3 : Hid (allFrom 0 f = pre2 ++ allFrom (k + 1) (f.drop (k + 1))) := by rw [Hid, hTm.out, List.drop_of_length_le (Nat.le_refl _)]; rfl
          gi_wp2
          go_roundw
          case rel => exact ⟨k + 1, pre2, by omega, by simp, hJm, hBm, hT3⟩
          case measure => simp [intOf]; omega
    · obtain rfl : k = f.length := by omega
      have hend : pre = allFrom 0 f := by rw [hT.out, List.drop_of_length_le (Nat.le_refl _)]; simp [allFrom]
      clear hT
      gi_wp2
      go_end0
      exact ⟨⟨_, rfl⟩, .inl ⟨_, hend, hJs⟩⟩
end Go.Proofs.Ytfkjhnfbajflaaa
