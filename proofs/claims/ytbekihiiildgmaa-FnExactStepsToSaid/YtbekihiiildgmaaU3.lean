/- What the laws' walks share: words, plain laws, and the walks of functions, part 3. -/
import Derived.Deep.RegionHeld3
import Derived.Laws.MakeOwn
import Derived.BigQuiet
import Derived.Laws.Bits64
import Derived.Deep.Slices
import Derived.Test.YtbekihiiildgmaaU2
namespace Go.Proofs.Ytbekihiiildgmaa
set_option linter.unusedVariables false
set_option linter.unusedSimpArgs false
open Go.RowKit Go.Maps
set_option maxHeartbeats 400000
theorem impl_freePages (b : Bk) (A : Option Addr) (n c : Nat) (w : World) (hn : n = b.pages.length) (hl : b.pages.length < 1000000000000) (hR : Row w A (pgs b.pages)) :
    Calls Try.prog 151 #[.agg #[.slice A n c, .int .i64 b.worn]] w fun e w' => e = .returned (.int .i64 (clean b)) ∧ Below w.heap.size w w' := by
  subst hn
  obtain ⟨ps, n⟩ := b
  dsimp only at *
  have hB0 : Below w.heap.size w (w.alloc (.cells #[.slice A ps.length c, .int .i64 n] 137)) := by (repeat (first | (with_reducible exact Below.refl _ _) | (with_reducible assumption) | (refine Below.setCell ?_ (by first | omega | exact hB.size | exact hb.size | (have h := hB.size; simp; omega) | (have h := hb.size; simp; omega) | (simp; omega) | simp) _) | (refine Below.alloc ?_ (by first | omega | exact hB.size | exact hb.size | (have h := hB.size; simp; omega) | (have h := hb.size; simp; omega) | (simp; omega) | simp) _) | (refine Below.drew ?_)))
  have hT : Hid ((clean ⟨ps, n⟩ : Int) = 0 + (ps.drop 0).countP isClean) := by unfold Hid clean; simp
  go_enter Try.func151, Try.ntmps151
  go_wp2
  go_loopw [3, 9] (fun q i wr => ∃ (k m : Nat), k ≤ ps.length ∧ i = .int .i64 k ∧ q = .int .i64 m ∧ m ≤ k ∧ Below w.heap.size w wr ∧ Hid ((clean ⟨ps, n⟩ : Int) = m + (ps.drop k).countP isClean)) (fun _ i _ => ps.length - (intOf i).toNat)
  case atStart => exact ⟨0, 0, by omega, rfl, rfl, by omega, hB0, hT⟩
  case round =>
    clear hT hB0
    obtain ⟨k, m, hk, rfl, rfl, hm, hB, hT⟩ := hrel
    by_cases hlt : k < ps.length
    · obtain ⟨p, hp⟩ := get_some hlt
      obtain ⟨bk, o, rfl⟩ := hR.addr (pgs_ne (by rintro rfl; simp at hlt))
      obtain ⟨c0, c1, c2, c3, c4⟩ := (hR.below hB (Nat.le_refl _)).pg hp
      have hd := Lib.hid (drop_cons hp)
      have hk1 : (k : Int) < ps.length := by omega
      have hB2 : ∀ o, Below w.heap.size w (wr.alloc o) := fun o => hB.alloc hB.size o
      clear hp
      by_cases h0 : p.state = 0
      · have hi : Hid (isClean p = true) := by unfold Hid isClean; simp [h0]
        rw [h0] at c0
        clear h0
        go_wp2
        go_roundw
        case rel => exact ⟨k + 1, m + 1, by omega, by go_num, by go_num, by omega, hB2 _, by rw [Hid, hT.out, hd.out, List.countP_cons, hi.out]; simp; omega⟩
        case measure => simp [intOf]; omega
      · have hi : Hid (isClean p = false) := by unfold Hid isClean; simp [h0]
        go_wp2
        go_roundw
        case rel => exact ⟨k + 1, m, by omega, by go_num, rfl, by omega, hB2 _, by rw [Hid, hT.out, hd.out, List.countP_cons, hi.out]; simp⟩
        case measure => simp [intOf]; omega
    · obtain rfl : k = ps.length := by omega
      go_wp2
      go_ret
      exact ⟨ret_int (by rw [hT.out, List.drop_of_length_le (Nat.le_refl _)]; simp), hB⟩
set_option maxHeartbeats 2000000 in
theorem impl_seqUsed (f : List Bk) (s : Int) (A : Option Addr) (n c : Nat) (w : World) (hn : n = f.length) (hl : f.length < 1000000000000) (hp : ∀ b ∈ f, b.pages.length < 1000000000000) (hF : Fl w A f) :
    Calls Try.prog 154 #[.slice A n c, .int .i64 s] w fun e w' => e = .returned (.bool (seqIn f s)) ∧ Below w.heap.size w w' := by
  subst hn
  obtain ⟨hs, hBk⟩ := hF
  have HP := Lib.hid hp
  have hT : Hid (seqIn f s = (f.drop 0).any (bkHas s)) := rfl
  clear hp
  go_enter Try.func154, Try.ntmps154
  go_wp2
  go_loopw [11] (fun i wr => ∃ (k : Nat), k ≤ f.length ∧ i = .int .i64 k ∧ Below w.heap.size w wr ∧ Hid (seqIn f s = (f.drop k).any (bkHas s))) (fun i _ => f.length - (intOf i).toNat)
  case atStart => exact ⟨0, by omega, rfl, Below.refl _ _, hT⟩
  case round =>
    clear hT
    obtain ⟨k, hk, rfl, hB, hT⟩ := hrel
    by_cases hlt : k < f.length
    · obtain ⟨B, hBb⟩ := get_some hlt
      obtain ⟨g, o, rfl⟩ := hBk.addr (by rintro rfl; simp at hlt)
      obtain ⟨⟨Ap, cp⟩, _, z0, z1, _, _, hR, _⟩ := (hBk.below hB (Nat.le_refl _)).at_ hBb
      have hd := Lib.hid (drop_cons hBb)
      have hpl := HP.out B (List.mem_of_getElem? hBb)
      have hk1 : (k : Int) < f.length := by omega
      obtain ⟨ps, n⟩ := B
      dsimp only at *
      have hB2 : Below w.heap.size w (wr.alloc (.cells #[.slice Ap ps.length cp, .int .i64 n] 137)) := hB.alloc hB.size _
      have hR2 := hR.alloc (.cells #[.slice Ap ps.length cp, .int .i64 n] 137)
      have hT0 : Hid (seqIn f s = ((ps.drop 0).any (hasSeq s) || (f.drop (k + 1)).any (bkHas s))) := by rw [Hid, hT.out, hd.out]; rfl
      clear hBb hT hd
      go_wp2
      go_loopw [18] (fun j wl => ∃ (m : Nat), m ≤ ps.length ∧ j = .int .i64 m ∧ Below w.heap.size w wl ∧ Row wl Ap (pgs ps) ∧ Hid (seqIn f s = ((ps.drop m).any (hasSeq s) || (f.drop (k + 1)).any (bkHas s)))) (fun j _ => ps.length - (intOf j).toNat)
      case atStart => exact ⟨0, by omega, rfl, hB2, hR2, hT0⟩
      case round =>
        clear hT0 hB2 hR2
        obtain ⟨m, hm, rfl, hBl, hRl, hT⟩ := hrel
        by_cases hltm : m < ps.length
        · obtain ⟨p, hq⟩ := get_some hltm
          obtain ⟨pb, po, rfl⟩ := hRl.addr (pgs_ne (by rintro rfl; simp at hltm))
          obtain ⟨c0, c1, c2, c3, c4⟩ := hRl.pg hq
          have hd := Lib.hid (drop_cons hq)
          have hm1 : (m : Int) < ps.length := by omega
          have hT1 : Hid (seqIn f s = (hasSeq s p || ((ps.drop (m + 1)).any (hasSeq s) || (f.drop (k + 1)).any (bkHas s)))) := by rw [Hid, hT.out, hd.out, List.any_cons, Bool.or_assoc]
          have hB3 := fun (o : Obj) => hBl.alloc hBl.size o
          have hR3 := fun (o : Obj) => hRl.alloc o
          clear hq hT hd
          by_cases h1 : p.state = 1
          · by_cases h2 : p.rc.seq = s
            · have hi : Hid (hasSeq s p = true) := by unfold Hid hasSeq; simp [h1, h2]
              rw [h1] at c0
              rw [h2] at c2
              clear h1 h2
              go_wp2
              go_ret
              exact ⟨ret_bool (by rw [hT1.out, hi.out]; rfl), hB3 _⟩
            · have hi : Hid (hasSeq s p = false) := by unfold Hid hasSeq; simp [h1, h2]
              rw [h1] at c0
              have h2' : (p.rc.seq == s) = false := by simpa using h2
              clear h1
              go_wp2
              go_roundw
              case rel => exact ⟨m + 1, by omega, by go_num, hB3 _, hR3 _, by rw [Hid, hT1.out, hi.out]; rfl⟩
              case measure => simp [intOf]; omega
          · have hi : Hid (hasSeq s p = false) := by unfold Hid hasSeq; simp [h1]
            have h1' : (p.state == 1) = false := by simpa using h1
            go_wp2
            go_roundw
            case rel => exact ⟨m + 1, by omega, by go_num, hB3 _, hR3 _, by rw [Hid, hT1.out, hi.out]; rfl⟩
            case measure => simp [intOf]; omega
        · obtain rfl : m = ps.length := by omega
          go_wp2
          go_roundw
          case rel => exact ⟨k + 1, by omega, by go_num, hBl, by rw [Hid, hT.out, List.drop_of_length_le (Nat.le_refl _)]; rfl⟩
          case measure => simp [intOf]; omega
    · obtain rfl : k = f.length := by omega
      go_wp2
      go_ret
      exact ⟨ret_bool (by rw [hT.out, List.drop_of_length_le (Nat.le_refl _)]; rfl), hB⟩
/-- what FlashWrite answers -/
def flashWrite (f : List Bk) (block : Int) (r : Rc) (torn : Bool) : List Bk × Bool :=
  if flashOk f = false ∨ blockB block = false ∨ recOk r = false then ([], false) else writeR f block.toNat r torn
theorem clean_le4 {b : Bk} (h : b.pages.length = 4) : clean b ≤ 4 := by rw [← h]; exact clean_le b
end Go.Proofs.Ytbekihiiildgmaa
namespace Go.Proofs.Ytbekihiiildgmaa
set_option linter.unusedVariables false
set_option linter.unusedSimpArgs false
open Go.RowKit Go.Maps
set_option maxHeartbeats 400000
def partly (b : Bk) : Bool := decide (0 < clean b) && decide (clean b < 4)
theorem impl_partlyUsed (b : Bk) (A : Option Addr) (n c : Nat) (w : World) (hn : n = b.pages.length) (hl : b.pages.length < 1000000000000) (hR : Row w A (pgs b.pages)) :
    Calls Try.prog 118 #[.agg #[.slice A n c, .int .i64 b.worn]] w fun e w' => e = .returned (.bool (partly b)) ∧ Below w.heap.size w w' := by
  subst hn
  have hB0 : Below w.heap.size w (w.alloc (.cells #[.slice A b.pages.length c, .int .i64 b.worn] 137)) := by (repeat (first | (with_reducible exact Below.refl _ _) | (with_reducible assumption) | (refine Below.setCell ?_ (by first | omega | exact hB.size | exact hb.size | (have h := hB.size; simp; omega) | (have h := hb.size; simp; omega) | (simp; omega) | simp) _) | (refine Below.alloc ?_ (by first | omega | exact hB.size | exact hb.size | (have h := hB.size; simp; omega) | (have h := hb.size; simp; omega) | (simp; omega) | simp) _) | (refine Below.drew ?_)))
  have hfin : Hid (partly b = (decide (0 < clean b) && decide (clean b < 4))) := rfl
  go_enter Try.func118, Try.ntmps118
  go_wp2_with fail
  refine (impl_freePages b A _ c _ rfl hl (hR.alloc _)).mono ?_
  rintro e w1 ⟨rfl, hb⟩
  have hB1 := hB0.trans (hb.mono (by simp))
  generalize clean b = n at *
  clear hb
  by_cases h0 : 0 < n
  · have h0' : (0 : Int) < n := by omega
    by_cases h4 : n < 4
    · have h4' : (n : Int) < 4 := by omega
      go_wp2
      go_ret
      exact ⟨ret_bool (by rw [hfin.out]; first | (simp [h0, h4]; done) | (simp [h0, h4]; omega)), hB1⟩
    · have h4' : ¬ (n : Int) < 4 := by omega
      go_wp2
      go_ret
      exact ⟨ret_bool (by rw [hfin.out]; first | (simp [h0, h4]; done) | (simp [h0, h4]; omega)), hB1⟩
  · have h0' : ¬ (0 : Int) < n := by omega
    go_wp2
    go_ret
    exact ⟨ret_bool (by rw [hfin.out]; simp [h0]), hB1⟩
end Go.Proofs.Ytbekihiiildgmaa
namespace Go.Proofs.Ytbekihiiildgmaa
set_option linter.unusedVariables false
set_option linter.unusedSimpArgs false
def spClash (a b : Span) : Bool := decide (0 < a.2) && (decide (0 < b.2) && (decide (b.1 ≤ a.2) && decide (a.1 ≤ b.2)))
def ordGo (ss : List Span) : Nat → Int → List Span → Option Int
  | _, n, [] => some n
  | i, n, a :: r => if (ss.take i).any (spClash a) = true then none else ordGo ss (i + 1) (max n a.2) r
def partOrd (ss : List Span) (n : Int) : Nat → Nat → List Bk → Bool
  | _, c, [] => decide (c ≤ 1)
  | i, c, b :: r => if partly b = true then (if 0 < (ss.getD i (0, 0)).2 ∧ (ss.getD i (0, 0)).2 < n then false else partOrd ss n (i + 1) (c + 1) r) else partOrd ss n (i + 1) c r
def ordI (ss : List Span) (f : List Bk) : Bool := match ordGo ss 0 0 ss with
  | none => false
  | some n => partOrd ss n 0 0 f
def findOrderI (f : List Bk) : Bool := if flashOk f = true then ordI (spOf (allFrom 0 f)) f else false
def bad1 (i k : Nat) (a b : Bk) : Bool := decide (i ≠ k) && (decide (0 < most a) && (decide (0 < most b) && (decide (least a < most b) && decide (least b < most a))))
def bad2 (i k : Nat) (a b : Bk) : Bool := decide (i ≠ k) && (partly a && (partly b || (decide (0 < most a) && decide (most a < most b))))
def rowOrd (i : Nat) (a : Bk) : Nat → List Bk → Bool
  | _, [] => true
  | k, b :: r => if bad1 i k a b = true ∨ bad2 i k a b = true then false else rowOrd i a (k + 1) r
def allOrd (f : List Bk) : Nat → List Bk → Bool
  | _, [] => true
  | i, a :: r => if rowOrd i a 0 f = true then allOrd f (i + 1) r else false
def findOrder (f : List Bk) : Bool := if flashOk f = true then allOrd f 0 f else false
end Go.Proofs.Ytbekihiiildgmaa
namespace Go.Proofs.Ytbekihiiildgmaa
set_option linter.unusedVariables false
set_option linter.unusedSimpArgs false
open Go.RowKit Go.Maps
set_option maxHeartbeats 400000
theorem wp_cut {P : Program} {c : Code} {Q : Exit → Act → World → Prop} {a : Act} {w : World} (F : (Nat → Value) → Act) (R : World → Prop)
    (h : c.wp P (fun e a' w' => e = .normal ∧ R w' ∧ ∃ v, a' = F v) a w) (h2 : ∀ v w', R w' → Q .normal (F v) w') : c.wp P Q a w :=
  Code.wp_mono (fun e a' w' ⟨he, hR, v, hv⟩ => by subst he; subst hv; exact h2 v w' hR) h
theorem cut_ex {a : Act} {F : (Nat → Value) → Act} (h : a = F (fun i => a.tmps.getD i undef)) : ∃ v, a = F v := ⟨_, h⟩
set_option maxHeartbeats 8000000 in
set_option maxRecDepth 100000 in
theorem spec_FindOrder (f : List Bk) (A : Option Addr) (n c : Nat) (w : World) (hn : n = f.length) (hl : f.length < 1000000000000) (hF : Fl w A f) :
    Calls Try.prog 64 #[.slice A n c] w fun e w' => e = .returned (.bool (findOrder f)) ∧ Below w.heap.size w w' := by
  subst hn
  by_cases hok : flashOk f = true
  · have hfin : Hid (findOrder f = allOrd f 0 f) := by unfold Hid findOrder; rw [if_pos hok]
    have HPL := Lib.hid (show ∀ b ∈ f, b.pages.length < 1000000000000 from fun b hb => by rw [(flashOk_shape hok b hb).1]; omega)
    have HL := Lib.hid (flashOk_len hok)
    go_enter Try.func64, Try.ntmps64
    go_wp2_with fail
    refine (spec_FlashOk f A c _ hl hF).mono ?_
    rw [hok]
    clear hok
    rintro e w1 ⟨rfl, hb1⟩
    obtain ⟨hs, hBk⟩ := hF.below hb1 (Nat.le_refl _)
    obtain ⟨g, o, rfl⟩ := hBk.addr (by intro e; have := HL.out; rw [e] at this; simp at this)
    rw [HL.out]
    go_wp2
    go_loopw [3] (fun i wr => ∃ k : Nat, k ≤ 4 ∧ i = .int .i64 k ∧ Below w1.heap.size w1 wr ∧ Hid (allOrd f 0 f = allOrd f k (f.drop k))) (fun i _ => 4 - (intOf i).toNat)
    case atStart => exact ⟨0, by omega, rfl, Below.refl _ _, rfl⟩
    case round =>
      obtain ⟨k, hk, rfl, hB, hT⟩ := hrel
      by_cases hlt : k < 4
      · obtain ⟨a, ha⟩ := get_some (l := f) (k := k) (by rw [HL.out]; exact hlt)
        have hT2 : Hid (allOrd f 0 f = if rowOrd k a 0 f = true then allOrd f (k + 1) (f.drop (k + 1)) else false) := by rw [Hid, hT.out, drop_cons ha, allOrd]
        have hk1 : (k : Int) < 4 := by omega
        have hpl := HPL.out a (List.mem_of_getElem? ha)
        clear hT
        go_wp2
        go_loopw [4] (fun i wl => ∃ j : Nat, j ≤ 4 ∧ i = .int .i64 j ∧ Below w1.heap.size w1 wl ∧ Hid (rowOrd k a 0 f = rowOrd k a j (f.drop j))) (fun i _ => 4 - (intOf i).toNat)
        case atStart => exact ⟨0, by omega, rfl, hB, rfl⟩
        case round =>
          obtain ⟨j, hj, rfl, hBl, hU⟩ := hrel
          by_cases hjt : j < 4
          · obtain ⟨b, hb⟩ := get_some (l := f) (k := j) (by rw [HL.out]; exact hjt)
            have hU2 : Hid (rowOrd k a 0 f = if bad1 k j a b = true ∨ bad2 k j a b = true then false else rowOrd k a (j + 1) (f.drop (j + 1))) := by rw [Hid, hU.out, drop_cons hb, rowOrd]
            have hj1 : (j : Int) < 4 := by omega
            obtain ⟨⟨Z, cz⟩, _, c0, c1, _, _, _, _⟩ := (hBk.below hBl (Nat.le_refl _)).at_ ha
            have hBa : Below w1.heap.size w1 (wr.alloc (.cells #[.slice Z a.pages.length cz, .int .i64 a.worn] 137)) := hBl.alloc hBl.size _
            obtain ⟨⟨Y, cy⟩, _, d0, d1, _, _, _, _⟩ := (hBk.below hBa (Nat.le_refl _)).at_ hb
            dsimp only at c0 d0
            have hBb : Below w1.heap.size w1 ((wr.alloc (.cells #[.slice Z a.pages.length cz, .int .i64 a.worn] 137)).alloc (.cells #[.slice Y b.pages.length cy, .int .i64 b.worn] 137)) := hBa.alloc hBa.size _
            have hBk2 := hBk.below hBb (Nat.le_refl _)
            have hx1 := ‹hs[k]? = some (Z, cz)›
            have hx2 := ‹hs[j]? = some (Y, cy)›
            have hR1 := (hBk2.pg k a (Z, cz) ha hx1).1
            have hR2 := (hBk2.pg j b (Y, cy) hb hx2).1
            dsimp only at hR1 hR2
            have p0 : ((wr.alloc (.cells #[.slice Z a.pages.length cz, .int .i64 a.worn] 137)).alloc (.cells #[.slice Y b.pages.length cy, .int .i64 b.worn] 137)).cell? ⟨wr.heap.size, 0, none⟩ = some (.slice Z a.pages.length cz) := by simp [go_sem]
            have p1 : ((wr.alloc (.cells #[.slice Z a.pages.length cz, .int .i64 a.worn] 137)).alloc (.cells #[.slice Y b.pages.length cy, .int .i64 b.worn] 137)).cell? ⟨wr.heap.size, 1, none⟩ = some (.int .i64 a.worn) := by simp [go_sem]
            have q0 : ((wr.alloc (.cells #[.slice Z a.pages.length cz, .int .i64 a.worn] 137)).alloc (.cells #[.slice Y b.pages.length cy, .int .i64 b.worn] 137)).cell? ⟨wr.heap.size + 1, 0, none⟩ = some (.slice Y b.pages.length cy) := by simp [go_sem]
            have q1 : ((wr.alloc (.cells #[.slice Z a.pages.length cz, .int .i64 a.worn] 137)).alloc (.cells #[.slice Y b.pages.length cy, .int .i64 b.worn] 137)).cell? ⟨wr.heap.size + 1, 1, none⟩ = some (.int .i64 b.worn) := by simp [go_sem]
            have hqL := HPL.out b (List.mem_of_getElem? hb)
            have hsz : ((wr.alloc (.cells #[.slice Z a.pages.length cz, .int .i64 a.worn] 137)).alloc (.cells #[.slice Y b.pages.length cy, .int .i64 b.worn] 137)).heap.size = wr.heap.size + 2 := by simp
            clear hU hb hx1 hx2 hBk2 hBa
            go_wp2
            obtain ⟨W2, hW2⟩ : ∃ W2, (wr.alloc (.cells #[.slice Z a.pages.length cz, .int .i64 a.worn] 137)).alloc (.cells #[.slice Y b.pages.length cy, .int .i64 b.worn] 137) = W2 := ⟨_, rfl⟩
            rw [hW2] at hBb hR1 hR2 p0 p1 q0 q1 hsz ⊢
            clear hW2
            obtain ⟨ma, hma⟩ : ∃ x : Int, most a = x := ⟨_, rfl⟩
            obtain ⟨mb, hmb⟩ : ∃ x : Int, most b = x := ⟨_, rfl⟩
            obtain ⟨la, hla⟩ : ∃ x : Int, least a = x := ⟨_, rfl⟩
            obtain ⟨lb, hlb⟩ : ∃ x : Int, least b = x := ⟨_, rfl⟩
            obtain ⟨ca, hca⟩ : ∃ x : Int, (clean a : Int) = x := ⟨_, rfl⟩
            obtain ⟨cb, hcb⟩ : ∃ x : Int, (clean b : Int) = x := ⟨_, rfl⟩
            have LI : ∀ (n m : Nat) (p q : Prop) [Decidable p] [Decidable q], (p ↔ q) → decide p = decide q := fun _ _ _ _ _ _ h => by rw [decide_eq_decide]; exact h
            have hpa : partly a = (decide (0 < ca) && decide (ca < 4)) := by unfold partly; rw [LI 0 0 (0 < clean a) (0 < ca) (by omega), LI 0 0 (clean a < 4) (ca < 4) (by omega)]
            have hpb : partly b = (decide (0 < cb) && decide (cb < 4)) := by unfold partly; rw [LI 0 0 (0 < clean b) (0 < cb) (by omega), LI 0 0 (clean b < 4) (cb < 4) (by omega)]
            have B1 : Hid (bad1 k j a b = (decide (k ≠ j) && (decide (0 < ma) && (decide (0 < mb) && (decide (la < mb) && decide (lb < ma)))))) := by rw [Hid, bad1, hma, hmb, hla, hlb]
            have B2 : Hid (bad2 k j a b = (decide (k ≠ j) && ((decide (0 < ca) && decide (ca < 4)) && ((decide (0 < cb) && decide (cb < 4)) || (decide (0 < ma) && decide (ma < mb)))))) := by rw [Hid, bad2, hpa, hpb, hma, hmb]
            have MA : ∀ X, Below W2.heap.size W2 X → Calls Try.prog 114 #[.agg #[.slice Z a.pages.length cz, .int .i64 a.worn]] X fun e w' => e = .returned (.int .i64 ma) ∧ Below X.heap.size X w' := fun X h => by rw [← hma]; exact spec_l3Most a Z cz X hpl (hR1.below h (Nat.le_refl _))
            have MB : ∀ X, Below W2.heap.size W2 X → Calls Try.prog 114 #[.agg #[.slice Y b.pages.length cy, .int .i64 b.worn]] X fun e w' => e = .returned (.int .i64 mb) ∧ Below X.heap.size X w' := fun X h => by rw [← hmb]; exact spec_l3Most b Y cy X hqL (hR2.below h (Nat.le_refl _))
            have LA : ∀ X, Below W2.heap.size W2 X → Calls Try.prog 115 #[.agg #[.slice Z a.pages.length cz, .int .i64 a.worn]] X fun e w' => e = .returned (.int .i64 la) ∧ Below X.heap.size X w' := fun X h => by rw [← hla]; exact spec_l3Least a Z cz X hpl (hR1.below h (Nat.le_refl _))
            have LB : ∀ X, Below W2.heap.size W2 X → Calls Try.prog 115 #[.agg #[.slice Y b.pages.length cy, .int .i64 b.worn]] X fun e w' => e = .returned (.int .i64 lb) ∧ Below X.heap.size X w' := fun X h => by rw [← hlb]; exact spec_l3Least b Y cy X hqL (hR2.below h (Nat.le_refl _))
            have CA : ∀ X, Below W2.heap.size W2 X → Calls Try.prog 116 #[.agg #[.slice Z a.pages.length cz, .int .i64 a.worn]] X fun e w' => e = .returned (.int .i64 ca) ∧ Below X.heap.size X w' := fun X h => by rw [← hca]; exact spec_l2Clean a Z cz X hpl (hR1.below h (Nat.le_refl _))
            have CB : ∀ X, Below W2.heap.size W2 X → Calls Try.prog 116 #[.agg #[.slice Y b.pages.length cy, .int .i64 b.worn]] X fun e w' => e = .returned (.int .i64 cb) ∧ Below X.heap.size X w' := fun X h => by rw [← hcb]; exact spec_l2Clean b Y cy X hqL (hR2.below h (Nat.le_refl _))
            replace MA := Lib.hid MA
            replace MB := Lib.hid MB
            replace LA := Lib.hid LA
            replace LB := Lib.hid LB
            replace CA := Lib.hid CA
            replace CB := Lib.hid CB
            have SS : ∀ X, Below W2.heap.size W2 X → X.cell? ⟨wr.heap.size, 0, none⟩ = some (.slice Z a.pages.length cz) ∧ X.cell? ⟨wr.heap.size, 1, none⟩ = some (.int .i64 a.worn) ∧ X.cell? ⟨wr.heap.size + 1, 0, none⟩ = some (.slice Y b.pages.length cy) ∧ X.cell? ⟨wr.heap.size + 1, 1, none⟩ = some (.int .i64 b.worn) := fun X h =>
              ⟨(h.cell (p := ⟨wr.heap.size, 0, none⟩) (by show wr.heap.size < _; omega)).trans p0, (h.cell (p := ⟨wr.heap.size, 1, none⟩) (by show wr.heap.size < _; omega)).trans p1, (h.cell (p := ⟨wr.heap.size + 1, 0, none⟩) (by show wr.heap.size + 1 < _; omega)).trans q0, (h.cell (p := ⟨wr.heap.size + 1, 1, none⟩) (by show wr.heap.size + 1 < _; omega)).trans q1⟩
            have hcl : ∀ X, Below W2.heap.size W2 X → Below w1.heap.size w1 X := fun X h => hBb.trans (h.mono hBb.size)
            have hb0 : Below W2.heap.size W2 W2.drew := (Below.refl _ _).drew
            replace SS := Lib.hid SS
            clear hR1 hR2 p0 p1 q0 q1 hBb c0 c1 d0 d1 hma hmb hla hlb hca hcb hpa hpb LI hpl hqL
            refine wp_cut (fun x => { tmps := #[Value.slice (some ⟨g, o, none⟩) 4 c, undef, x 2, Value.int .i64 (k : Int), Value.int .i64 (j : Int), Value.pointer (some ⟨wr.heap.size, 0, none⟩), Value.pointer (some ⟨wr.heap.size + 1, 0, none⟩), Value.slice (some ⟨g, o, none⟩) 4 c, Value.bool true, Value.bool false, Value.int .i64 (k : Int), Value.slice (some ⟨g, o, none⟩) 4 c, Value.int .i64 4, Value.bool true, u14, u15, x 16, x 17, x 18, x 19, x 20, x 21, x 22, x 23, x 24, x 25, x 26, x 27, x 28, x 29, x 30, x 31, x 32, x 33, x 34, x 35, x 36, x 37, x 38, x 39, x 40, x 41, x 42, x 43, x 44, x 45, x 46, x 47, x 48, x 49, x 50, x 51, x 52, x 53, x 54, x 55, Value.bool (bad1 k j a b), x 57, x 58, x 59, x 60, x 61, x 62, x 63, x 64, x 65, x 66, x 67, x 68, x 69, x 70, x 71, x 72, x 73, x 74, x 75, x 76, x 77, x 78, x 79, x 80, x 81, x 82, x 83, x 84, x 85, x 86, x 87, x 88, x 89, x 90, x 91], defers := [] }) (fun X => Below W2.heap.size W2 X) ?reg11 ?rest11
            case reg11 =>
              refine wp_region_held_drew (S := fun X => X.cell? ⟨wr.heap.size, 0, none⟩ = some (.slice Z a.pages.length cz) ∧ X.cell? ⟨wr.heap.size, 1, none⟩ = some (.int .i64 a.worn) ∧ X.cell? ⟨wr.heap.size + 1, 0, none⟩ = some (.slice Y b.pages.length cy) ∧ X.cell? ⟨wr.heap.size + 1, 1, none⟩ = some (.int .i64 b.worn)) (by kernel_rfl) (SS.out _ hb0) (fun hHeld0 => ?_)
              refine wpAnyH_take (i := 0) (v := ?vg1) rfl (by kernel_rfl) (by kernel_rfl) (by kernel_rfl) (fun _ _ _ h => nomatch h.1) (Or.inl ⟨by kernel_rfl, ?yg1⟩) hHeld0 ?rg1
              case yg1 => (intro w' hS; (try dsimp only at hS); obtain ⟨s0, s1, s2, s3⟩ := hS; (try go_simp); (try with_reducible rfl))
              try simp only [Act.put, List.getElem_toArray, List.getElem_cons_zero, List.getElem_cons_succ, List.setIfInBounds_toArray, List.set_cons_zero, List.set_cons_succ]
              refine wpAnyH_take (i := 1) (v := ?vg2) rfl (by kernel_rfl) (by kernel_rfl) (by kernel_rfl) (fun _ _ _ h => nomatch h.1) (Or.inl ⟨by kernel_rfl, ?yg2⟩) hHeld0 ?rg2
              case yg2 => (intro w' hS; (try dsimp only at hS); obtain ⟨s0, s1, s2, s3⟩ := hS; (try go_simp); (try with_reducible rfl))
              try simp only [Act.put, List.getElem_toArray, List.getElem_cons_zero, List.getElem_cons_succ, List.setIfInBounds_toArray, List.set_cons_zero, List.set_cons_succ]
              by_cases n0 : k ≠ j
              · have dn0 : ((k : Int) != (j : Int)) = true := by rw [bne_iff_ne]; omega
                have en0 : decide (k ≠ j) = true := decide_eq_true n0
                refine wpAnyH_take (i := 2) (v := ?vg3) rfl (by kernel_rfl) (by kernel_rfl) (by kernel_rfl) (fun _ _ _ h => nomatch h.1) (Or.inl ⟨by kernel_rfl, ?yg3⟩) hHeld0 ?rg3
                case yg3 => (intro w' hS; (try dsimp only at hS); obtain ⟨s0, s1, s2, s3⟩ := hS; (try go_simp); (try with_reducible rfl))
                try simp only [Act.put, List.getElem_toArray, List.getElem_cons_zero, List.getElem_cons_succ, List.setIfInBounds_toArray, List.set_cons_zero, List.set_cons_succ]
                refine wpAnyH_take (i := 3) (v := ?vg4) rfl (by kernel_rfl) (by kernel_rfl) (by kernel_rfl) (fun _ _ _ h => nomatch h.1) (Or.inl ⟨by kernel_rfl, ?yg4⟩) hHeld0 ?rg4
                case yg4 => (intro w' hS; (try dsimp only at hS); obtain ⟨s0, s1, s2, s3⟩ := hS; (try go_simp); (try with_reducible rfl))
                try simp only [Act.put, List.getElem_toArray, List.getElem_cons_zero, List.getElem_cons_succ, List.setIfInBounds_toArray, List.set_cons_zero, List.set_cons_succ]
                refine wpAnyH_take (i := 4) (v := ?vg5) rfl (by kernel_rfl) (by kernel_rfl) (by kernel_rfl) (fun _ _ _ h => nomatch h.1) (Or.inl ⟨by kernel_rfl, ?yg5⟩) hHeld0 ?rg5
                case yg5 => (intro w' hS; (try dsimp only at hS); obtain ⟨s0, s1, s2, s3⟩ := hS; (try go_simp); (try with_reducible rfl))
                try simp only [Act.put, List.getElem_toArray, List.getElem_cons_zero, List.getElem_cons_succ, List.setIfInBounds_toArray, List.set_cons_zero, List.set_cons_succ]
                refine wpAnyH_ready (rs := [5]) (by kernel_rfl) (by simp) ?_
                refine AllReadyH.cons rfl (fun K hK => ?_) AllReadyH.nil
                go_simp
                refine (MA.out _ hb0).mono ?_
                rintro e x1 ⟨rfl, hc1⟩
                have hb1 := hb0.trans (hc1.mono hb0.size)
                clear hc1
                go_wp2_with fail
                refine hK.out _ _ (SS.out _ hb1) (fun hHeld1 => ?_)
                clear hK K
                try simp only [Act.put, List.getElem_toArray, List.getElem_cons_zero, List.getElem_cons_succ, List.setIfInBounds_toArray, List.set_cons_zero, List.set_cons_succ]
                by_cases n1 : 0 < ma
                · have dn1 : decide (0 < ma) = true := decide_eq_true n1
                  refine wpAnyH_take (i := 6) (v := ?vg6) rfl (by kernel_rfl) (by kernel_rfl) (by kernel_rfl) (fun _ _ _ h => nomatch h.1) (Or.inl ⟨by kernel_rfl, ?yg6⟩) hHeld1 ?rg6
                  case yg6 => (intro w' hS; (try dsimp only at hS); obtain ⟨s0, s1, s2, s3⟩ := hS; (try go_simp); (try with_reducible rfl))
                  try simp only [Act.put, List.getElem_toArray, List.getElem_cons_zero, List.getElem_cons_succ, List.setIfInBounds_toArray, List.set_cons_zero, List.set_cons_succ]
                  refine wpAnyH_take (i := 7) (v := ?vg7) rfl (by kernel_rfl) (by kernel_rfl) (by kernel_rfl) (fun _ _ _ h => nomatch h.1) (Or.inl ⟨by kernel_rfl, ?yg7⟩) hHeld1 ?rg7
                  case yg7 => (intro w' hS; (try dsimp only at hS); obtain ⟨s0, s1, s2, s3⟩ := hS; (try go_simp); (try with_reducible rfl))
                  try simp only [Act.put, List.getElem_toArray, List.getElem_cons_zero, List.getElem_cons_succ, List.setIfInBounds_toArray, List.set_cons_zero, List.set_cons_succ]
                  refine wpAnyH_take (i := 8) (v := ?vg8) rfl (by kernel_rfl) (by kernel_rfl) (by kernel_rfl) (fun _ _ _ h => nomatch h.1) (Or.inl ⟨by kernel_rfl, ?yg8⟩) hHeld1 ?rg8
                  case yg8 => (intro w' hS; (try dsimp only at hS); obtain ⟨s0, s1, s2, s3⟩ := hS; (try go_simp); (try with_reducible rfl))
                  try simp only [Act.put, List.getElem_toArray, List.getElem_cons_zero, List.getElem_cons_succ, List.setIfInBounds_toArray, List.set_cons_zero, List.set_cons_succ]
                  refine wpAnyH_take (i := 9) (v := ?vg9) rfl (by kernel_rfl) (by kernel_rfl) (by kernel_rfl) (fun _ _ _ h => nomatch h.1) (Or.inl ⟨by kernel_rfl, ?yg9⟩) hHeld1 ?rg9
                  case yg9 => (intro w' hS; (try dsimp only at hS); obtain ⟨s0, s1, s2, s3⟩ := hS; (try go_simp); (try with_reducible rfl))
                  try simp only [Act.put, List.getElem_toArray, List.getElem_cons_zero, List.getElem_cons_succ, List.setIfInBounds_toArray, List.set_cons_zero, List.set_cons_succ]
                  refine wpAnyH_ready (rs := [10]) (by kernel_rfl) (by simp) ?_
                  refine AllReadyH.cons rfl (fun K hK => ?_) AllReadyH.nil
                  go_simp
                  refine (MB.out _ hb1).mono ?_
                  rintro e x2 ⟨rfl, hc2⟩
                  have hb2 := hb1.trans (hc2.mono hb1.size)
                  clear hc2
                  go_wp2_with fail
                  refine hK.out _ _ (SS.out _ hb2) (fun hHeld2 => ?_)
                  clear hK K
                  try simp only [Act.put, List.getElem_toArray, List.getElem_cons_zero, List.getElem_cons_succ, List.setIfInBounds_toArray, List.set_cons_zero, List.set_cons_succ]
                  by_cases n2 : 0 < mb
                  · have dn2 : decide (0 < mb) = true := decide_eq_true n2
                    refine wpAnyH_take (i := 11) (v := ?vg10) rfl (by kernel_rfl) (by kernel_rfl) (by kernel_rfl) (fun _ _ _ h => nomatch h.1) (Or.inl ⟨by kernel_rfl, ?yg10⟩) hHeld2 ?rg10
                    case yg10 => (intro w' hS; (try dsimp only at hS); obtain ⟨s0, s1, s2, s3⟩ := hS; (try go_simp); (try with_reducible rfl))
                    try simp only [Act.put, List.getElem_toArray, List.getElem_cons_zero, List.getElem_cons_succ, List.setIfInBounds_toArray, List.set_cons_zero, List.set_cons_succ]
                    refine wpAnyH_take (i := 12) (v := ?vg11) rfl (by kernel_rfl) (by kernel_rfl) (by kernel_rfl) (fun _ _ _ h => nomatch h.1) (Or.inl ⟨by kernel_rfl, ?yg11⟩) hHeld2 ?rg11
                    case yg11 => (intro w' hS; (try dsimp only at hS); obtain ⟨s0, s1, s2, s3⟩ := hS; (try go_simp); (try with_reducible rfl))
                    try simp only [Act.put, List.getElem_toArray, List.getElem_cons_zero, List.getElem_cons_succ, List.setIfInBounds_toArray, List.set_cons_zero, List.set_cons_succ]
                    refine wpAnyH_take (i := 13) (v := ?vg12) rfl (by kernel_rfl) (by kernel_rfl) (by kernel_rfl) (fun _ _ _ h => nomatch h.1) (Or.inl ⟨by kernel_rfl, ?yg12⟩) hHeld2 ?rg12
                    case yg12 => (intro w' hS; (try dsimp only at hS); obtain ⟨s0, s1, s2, s3⟩ := hS; (try go_simp); (try with_reducible rfl))
                    try simp only [Act.put, List.getElem_toArray, List.getElem_cons_zero, List.getElem_cons_succ, List.setIfInBounds_toArray, List.set_cons_zero, List.set_cons_succ]
                    refine wpAnyH_take (i := 14) (v := ?vg13) rfl (by kernel_rfl) (by kernel_rfl) (by kernel_rfl) (fun _ _ _ h => nomatch h.1) (Or.inl ⟨by kernel_rfl, ?yg13⟩) hHeld2 ?rg13
                    case yg13 => (intro w' hS; (try dsimp only at hS); obtain ⟨s0, s1, s2, s3⟩ := hS; (try go_simp); (try with_reducible rfl))
                    try simp only [Act.put, List.getElem_toArray, List.getElem_cons_zero, List.getElem_cons_succ, List.setIfInBounds_toArray, List.set_cons_zero, List.set_cons_succ]
                    refine wpAnyH_take (i := 16) (v := ?vg14) rfl (by kernel_rfl) (by kernel_rfl) (by kernel_rfl) (fun _ _ _ h => nomatch h.1) (Or.inl ⟨by kernel_rfl, ?yg14⟩) hHeld2 ?rg14
                    case yg14 => (intro w' hS; (try dsimp only at hS); obtain ⟨s0, s1, s2, s3⟩ := hS; (try go_simp); (try with_reducible rfl))
                    try simp only [Act.put, List.getElem_toArray, List.getElem_cons_zero, List.getElem_cons_succ, List.setIfInBounds_toArray, List.set_cons_zero, List.set_cons_succ]
                    refine wpAnyH_ready (rs := [15]) (by kernel_rfl) (by simp) ?_
                    refine AllReadyH.cons rfl (fun K hK => ?_) AllReadyH.nil
                    go_simp
                    refine (LA.out _ hb2).mono ?_
                    rintro e x3 ⟨rfl, hc3⟩
                    have hb3 := hb2.trans (hc3.mono hb2.size)
                    clear hc3
                    go_wp2_with fail
                    refine hK.out _ _ (SS.out _ hb3) (fun hHeld3 => ?_)
                    clear hK K
                    try simp only [Act.put, List.getElem_toArray, List.getElem_cons_zero, List.getElem_cons_succ, List.setIfInBounds_toArray, List.set_cons_zero, List.set_cons_succ]
                    refine wpAnyH_ready (rs := [17]) (by kernel_rfl) (by simp) ?_
                    refine AllReadyH.cons rfl (fun K hK => ?_) AllReadyH.nil
                    go_simp
                    refine (MB.out _ hb3).mono ?_
                    rintro e x4 ⟨rfl, hc4⟩
                    have hb4 := hb3.trans (hc4.mono hb3.size)
                    clear hc4
                    go_wp2_with fail
                    refine hK.out _ _ (SS.out _ hb4) (fun hHeld4 => ?_)
                    clear hK K
                    try simp only [Act.put, List.getElem_toArray, List.getElem_cons_zero, List.getElem_cons_succ, List.setIfInBounds_toArray, List.set_cons_zero, List.set_cons_succ]
                    by_cases n3 : la < mb
                    · have dn3 : decide (la < mb) = true := decide_eq_true n3
                      refine wpAnyH_take (i := 18) (v := ?vg15) rfl (by kernel_rfl) (by kernel_rfl) (by kernel_rfl) (fun _ _ _ h => nomatch h.1) (Or.inl ⟨by kernel_rfl, ?yg15⟩) hHeld4 ?rg15
                      case yg15 => (intro w' hS; (try dsimp only at hS); obtain ⟨s0, s1, s2, s3⟩ := hS; (try go_simp); (try with_reducible rfl))
                      try simp only [Act.put, List.getElem_toArray, List.getElem_cons_zero, List.getElem_cons_succ, List.setIfInBounds_toArray, List.set_cons_zero, List.set_cons_succ]
                      refine wpAnyH_take (i := 19) (v := ?vg16) rfl (by kernel_rfl) (by kernel_rfl) (by kernel_rfl) (fun _ _ _ h => nomatch h.1) (Or.inl ⟨by kernel_rfl, ?yg16⟩) hHeld4 ?rg16
                      case yg16 => (intro w' hS; (try dsimp only at hS); obtain ⟨s0, s1, s2, s3⟩ := hS; (try go_simp); (try with_reducible rfl))
                      try simp only [Act.put, List.getElem_toArray, List.getElem_cons_zero, List.getElem_cons_succ, List.setIfInBounds_toArray, List.set_cons_zero, List.set_cons_succ]
                      refine wpAnyH_take (i := 20) (v := ?vg17) rfl (by kernel_rfl) (by kernel_rfl) (by kernel_rfl) (fun _ _ _ h => nomatch h.1) (Or.inl ⟨by kernel_rfl, ?yg17⟩) hHeld4 ?rg17
                      case yg17 => (intro w' hS; (try dsimp only at hS); obtain ⟨s0, s1, s2, s3⟩ := hS; (try go_simp); (try with_reducible rfl))
                      try simp only [Act.put, List.getElem_toArray, List.getElem_cons_zero, List.getElem_cons_succ, List.setIfInBounds_toArray, List.set_cons_zero, List.set_cons_succ]
                      refine wpAnyH_take (i := 21) (v := ?vg18) rfl (by kernel_rfl) (by kernel_rfl) (by kernel_rfl) (fun _ _ _ h => nomatch h.1) (Or.inl ⟨by kernel_rfl, ?yg18⟩) hHeld4 ?rg18
                      case yg18 => (intro w' hS; (try dsimp only at hS); obtain ⟨s0, s1, s2, s3⟩ := hS; (try go_simp); (try with_reducible rfl))
                      try simp only [Act.put, List.getElem_toArray, List.getElem_cons_zero, List.getElem_cons_succ, List.setIfInBounds_toArray, List.set_cons_zero, List.set_cons_succ]
                      refine wpAnyH_take (i := 23) (v := ?vg19) rfl (by kernel_rfl) (by kernel_rfl) (by kernel_rfl) (fun _ _ _ h => nomatch h.1) (Or.inl ⟨by kernel_rfl, ?yg19⟩) hHeld4 ?rg19
                      case yg19 => (intro w' hS; (try dsimp only at hS); obtain ⟨s0, s1, s2, s3⟩ := hS; (try go_simp); (try with_reducible rfl))
                      try simp only [Act.put, List.getElem_toArray, List.getElem_cons_zero, List.getElem_cons_succ, List.setIfInBounds_toArray, List.set_cons_zero, List.set_cons_succ]
                      refine wpAnyH_ready (rs := [22]) (by kernel_rfl) (by simp) ?_
                      refine AllReadyH.cons rfl (fun K hK => ?_) AllReadyH.nil
                      go_simp
                      refine (LB.out _ hb4).mono ?_
                      rintro e x5 ⟨rfl, hc5⟩
                      have hb5 := hb4.trans (hc5.mono hb4.size)
                      clear hc5
                      go_wp2_with fail
                      refine hK.out _ _ (SS.out _ hb5) (fun hHeld5 => ?_)
                      clear hK K
                      try simp only [Act.put, List.getElem_toArray, List.getElem_cons_zero, List.getElem_cons_succ, List.setIfInBounds_toArray, List.set_cons_zero, List.set_cons_succ]
                      refine wpAnyH_ready (rs := [24]) (by kernel_rfl) (by simp) ?_
                      refine AllReadyH.cons rfl (fun K hK => ?_) AllReadyH.nil
                      go_simp
                      refine (MA.out _ hb5).mono ?_
                      rintro e x6 ⟨rfl, hc6⟩
                      have hb6 := hb5.trans (hc6.mono hb5.size)
                      clear hc6
                      go_wp2_with fail
                      refine hK.out _ _ (SS.out _ hb6) (fun hHeld6 => ?_)
                      clear hK K
                      try simp only [Act.put, List.getElem_toArray, List.getElem_cons_zero, List.getElem_cons_succ, List.setIfInBounds_toArray, List.set_cons_zero, List.set_cons_succ]
                      by_cases n4 : lb < ma
                      · have dn4 : decide (lb < ma) = true := decide_eq_true n4
                        refine wpAnyH_take (i := 25) (v := ?vg20) rfl (by kernel_rfl) (by kernel_rfl) (by kernel_rfl) (fun _ _ _ h => nomatch h.1) (Or.inl ⟨by kernel_rfl, ?yg20⟩) hHeld6 ?rg20
                        case yg20 => (intro w' hS; (try dsimp only at hS); obtain ⟨s0, s1, s2, s3⟩ := hS; (try go_simp); (try with_reducible rfl))
                        try simp only [Act.put, List.getElem_toArray, List.getElem_cons_zero, List.getElem_cons_succ, List.setIfInBounds_toArray, List.set_cons_zero, List.set_cons_succ]
                        refine wpAnyH_take (i := 26) (v := ?vg21) rfl (by kernel_rfl) (by kernel_rfl) (by kernel_rfl) (fun _ _ _ h => nomatch h.1) (Or.inl ⟨by kernel_rfl, ?yg21⟩) hHeld6 ?rg21
                        case yg21 => (intro w' hS; (try dsimp only at hS); obtain ⟨s0, s1, s2, s3⟩ := hS; (try go_simp); (try with_reducible rfl))
                        try simp only [Act.put, List.getElem_toArray, List.getElem_cons_zero, List.getElem_cons_succ, List.setIfInBounds_toArray, List.set_cons_zero, List.set_cons_succ]
                        refine wpAnyH_done (by kernel_rfl) ?_ _
                        have hv : bad1 k j a b = true := by rw [B1.out, en0, dn1, dn2, dn3, dn4]; rfl
                        refine ⟨rfl, hb6, ?_⟩
                        rw [hv]
                        exact cut_ex (by kernel_rfl)
                      · have dn4 : decide (lb < ma) = false := decide_eq_false n4
                        refine wpAnyH_take (i := 25) (v := ?vg22) rfl (by kernel_rfl) (by kernel_rfl) (by kernel_rfl) (fun _ _ _ h => nomatch h.1) (Or.inl ⟨by kernel_rfl, ?yg22⟩) hHeld6 ?rg22
                        case yg22 => (intro w' hS; (try dsimp only at hS); obtain ⟨s0, s1, s2, s3⟩ := hS; (try go_simp); (try with_reducible rfl))
                        try simp only [Act.put, List.getElem_toArray, List.getElem_cons_zero, List.getElem_cons_succ, List.setIfInBounds_toArray, List.set_cons_zero, List.set_cons_succ]
                        refine wpAnyH_take (i := 26) (v := ?vg23) rfl (by kernel_rfl) (by kernel_rfl) (by kernel_rfl) (fun _ _ _ h => nomatch h.1) (Or.inl ⟨by kernel_rfl, ?yg23⟩) hHeld6 ?rg23
                        case yg23 => (intro w' hS; (try dsimp only at hS); obtain ⟨s0, s1, s2, s3⟩ := hS; (try go_simp); (try with_reducible rfl))
                        try simp only [Act.put, List.getElem_toArray, List.getElem_cons_zero, List.getElem_cons_succ, List.setIfInBounds_toArray, List.set_cons_zero, List.set_cons_succ]
                        refine wpAnyH_done (by kernel_rfl) ?_ _
                        have hv : bad1 k j a b = false := by rw [B1.out, en0, dn1, dn2, dn3, dn4]; rfl
                        refine ⟨rfl, hb6, ?_⟩
                        rw [hv]
                        exact cut_ex (by kernel_rfl)
                    · have dn3 : decide (la < mb) = false := decide_eq_false n3
                      refine wpAnyH_take (i := 18) (v := ?vg24) rfl (by kernel_rfl) (by kernel_rfl) (by kernel_rfl) (fun _ _ _ h => nomatch h.1) (Or.inl ⟨by kernel_rfl, ?yg24⟩) hHeld4 ?rg24
                      case yg24 => (intro w' hS; (try dsimp only at hS); obtain ⟨s0, s1, s2, s3⟩ := hS; (try go_simp); (try with_reducible rfl))
                      try simp only [Act.put, List.getElem_toArray, List.getElem_cons_zero, List.getElem_cons_succ, List.setIfInBounds_toArray, List.set_cons_zero, List.set_cons_succ]
                      refine wpAnyH_take (i := 19) (v := ?vg25) rfl (by kernel_rfl) (by kernel_rfl) (by kernel_rfl) (fun _ _ _ h => nomatch h.1) (Or.inl ⟨by kernel_rfl, ?yg25⟩) hHeld4 ?rg25
                      case yg25 => (intro w' hS; (try dsimp only at hS); obtain ⟨s0, s1, s2, s3⟩ := hS; (try go_simp); (try with_reducible rfl))
                      try simp only [Act.put, List.getElem_toArray, List.getElem_cons_zero, List.getElem_cons_succ, List.setIfInBounds_toArray, List.set_cons_zero, List.set_cons_succ]
                      refine wpAnyH_take (i := 20) (v := ?vg26) rfl (by kernel_rfl) (by kernel_rfl) (by kernel_rfl) (fun _ _ _ h => nomatch h.1) (Or.inl ⟨by kernel_rfl, ?yg26⟩) hHeld4 ?rg26
                      case yg26 => (intro w' hS; (try dsimp only at hS); obtain ⟨s0, s1, s2, s3⟩ := hS; (try go_simp); (try with_reducible rfl))
                      try simp only [Act.put, List.getElem_toArray, List.getElem_cons_zero, List.getElem_cons_succ, List.setIfInBounds_toArray, List.set_cons_zero, List.set_cons_succ]
                      refine wpAnyH_take (i := 21) (v := undef) rfl (by kernel_rfl) (by kernel_rfl) (by kernel_rfl) (fun _ _ _ h => nomatch h.1) (Or.inr ⟨by kernel_rfl, rfl⟩) hHeld4 ?_
                      try simp only [Act.put, List.getElem_toArray, List.getElem_cons_zero, List.getElem_cons_succ, List.setIfInBounds_toArray, List.set_cons_zero, List.set_cons_succ]
                      refine wpAnyH_take (i := 22) (v := undef) rfl (by kernel_rfl) (by kernel_rfl) (by kernel_rfl) (fun _ _ _ h => nomatch h.1) (Or.inr ⟨by kernel_rfl, rfl⟩) hHeld4 ?_
                      try simp only [Act.put, List.getElem_toArray, List.getElem_cons_zero, List.getElem_cons_succ, List.setIfInBounds_toArray, List.set_cons_zero, List.set_cons_succ]
                      refine wpAnyH_take (i := 23) (v := undef) rfl (by kernel_rfl) (by kernel_rfl) (by kernel_rfl) (fun _ _ _ h => nomatch h.1) (Or.inr ⟨by kernel_rfl, rfl⟩) hHeld4 ?_
                      try simp only [Act.put, List.getElem_toArray, List.getElem_cons_zero, List.getElem_cons_succ, List.setIfInBounds_toArray, List.set_cons_zero, List.set_cons_succ]
                      refine wpAnyH_take (i := 24) (v := undef) rfl (by kernel_rfl) (by kernel_rfl) (by kernel_rfl) (fun _ _ _ h => nomatch h.1) (Or.inr ⟨by kernel_rfl, rfl⟩) hHeld4 ?_
                      try simp only [Act.put, List.getElem_toArray, List.getElem_cons_zero, List.getElem_cons_succ, List.setIfInBounds_toArray, List.set_cons_zero, List.set_cons_succ]
                      refine wpAnyH_take (i := 25) (v := undef) rfl (by kernel_rfl) (by kernel_rfl) (by kernel_rfl) (fun _ _ _ h => nomatch h.1) (Or.inr ⟨by kernel_rfl, rfl⟩) hHeld4 ?_
                      try simp only [Act.put, List.getElem_toArray, List.getElem_cons_zero, List.getElem_cons_succ, List.setIfInBounds_toArray, List.set_cons_zero, List.set_cons_succ]
                      refine wpAnyH_take (i := 26) (v := ?vg27) rfl (by kernel_rfl) (by kernel_rfl) (by kernel_rfl) (fun _ _ _ h => nomatch h.1) (Or.inl ⟨by kernel_rfl, ?yg27⟩) hHeld4 ?rg27
                      case yg27 => (intro w' hS; (try dsimp only at hS); obtain ⟨s0, s1, s2, s3⟩ := hS; (try go_simp); (try with_reducible rfl))
                      try simp only [Act.put, List.getElem_toArray, List.getElem_cons_zero, List.getElem_cons_succ, List.setIfInBounds_toArray, List.set_cons_zero, List.set_cons_succ]
                      refine wpAnyH_done (by kernel_rfl) ?_ _
                      have hv : bad1 k j a b = false := by rw [B1.out, en0, dn1, dn2, dn3]; rfl
                      refine ⟨rfl, hb4, ?_⟩
                      rw [hv]
                      exact cut_ex (by kernel_rfl)
                  · have dn2 : decide (0 < mb) = false := decide_eq_false n2
                    refine wpAnyH_take (i := 11) (v := ?vg28) rfl (by kernel_rfl) (by kernel_rfl) (by kernel_rfl) (fun _ _ _ h => nomatch h.1) (Or.inl ⟨by kernel_rfl, ?yg28⟩) hHeld2 ?rg28
                    case yg28 => (intro w' hS; (try dsimp only at hS); obtain ⟨s0, s1, s2, s3⟩ := hS; (try go_simp); (try with_reducible rfl))
                    try simp only [Act.put, List.getElem_toArray, List.getElem_cons_zero, List.getElem_cons_succ, List.setIfInBounds_toArray, List.set_cons_zero, List.set_cons_succ]
                    refine wpAnyH_take (i := 12) (v := ?vg29) rfl (by kernel_rfl) (by kernel_rfl) (by kernel_rfl) (fun _ _ _ h => nomatch h.1) (Or.inl ⟨by kernel_rfl, ?yg29⟩) hHeld2 ?rg29
                    case yg29 => (intro w' hS; (try dsimp only at hS); obtain ⟨s0, s1, s2, s3⟩ := hS; (try go_simp); (try with_reducible rfl))
                    try simp only [Act.put, List.getElem_toArray, List.getElem_cons_zero, List.getElem_cons_succ, List.setIfInBounds_toArray, List.set_cons_zero, List.set_cons_succ]
                    refine wpAnyH_take (i := 13) (v := ?vg30) rfl (by kernel_rfl) (by kernel_rfl) (by kernel_rfl) (fun _ _ _ h => nomatch h.1) (Or.inl ⟨by kernel_rfl, ?yg30⟩) hHeld2 ?rg30
                    case yg30 => (intro w' hS; (try dsimp only at hS); obtain ⟨s0, s1, s2, s3⟩ := hS; (try go_simp); (try with_reducible rfl))
                    try simp only [Act.put, List.getElem_toArray, List.getElem_cons_zero, List.getElem_cons_succ, List.setIfInBounds_toArray, List.set_cons_zero, List.set_cons_succ]
                    refine wpAnyH_take (i := 14) (v := undef) rfl (by kernel_rfl) (by kernel_rfl) (by kernel_rfl) (fun _ _ _ h => nomatch h.1) (Or.inr ⟨by kernel_rfl, rfl⟩) hHeld2 ?_
                    try simp only [Act.put, List.getElem_toArray, List.getElem_cons_zero, List.getElem_cons_succ, List.setIfInBounds_toArray, List.set_cons_zero, List.set_cons_succ]
                    refine wpAnyH_take (i := 15) (v := undef) rfl (by kernel_rfl) (by kernel_rfl) (by kernel_rfl) (fun _ _ _ h => nomatch h.1) (Or.inr ⟨by kernel_rfl, rfl⟩) hHeld2 ?_
                    try simp only [Act.put, List.getElem_toArray, List.getElem_cons_zero, List.getElem_cons_succ, List.setIfInBounds_toArray, List.set_cons_zero, List.set_cons_succ]
                    refine wpAnyH_take (i := 16) (v := undef) rfl (by kernel_rfl) (by kernel_rfl) (by kernel_rfl) (fun _ _ _ h => nomatch h.1) (Or.inr ⟨by kernel_rfl, rfl⟩) hHeld2 ?_
                    try simp only [Act.put, List.getElem_toArray, List.getElem_cons_zero, List.getElem_cons_succ, List.setIfInBounds_toArray, List.set_cons_zero, List.set_cons_succ]
                    refine wpAnyH_take (i := 17) (v := undef) rfl (by kernel_rfl) (by kernel_rfl) (by kernel_rfl) (fun _ _ _ h => nomatch h.1) (Or.inr ⟨by kernel_rfl, rfl⟩) hHeld2 ?_
                    try simp only [Act.put, List.getElem_toArray, List.getElem_cons_zero, List.getElem_cons_succ, List.setIfInBounds_toArray, List.set_cons_zero, List.set_cons_succ]
                    refine wpAnyH_take (i := 18) (v := undef) rfl (by kernel_rfl) (by kernel_rfl) (by kernel_rfl) (fun _ _ _ h => nomatch h.1) (Or.inr ⟨by kernel_rfl, rfl⟩) hHeld2 ?_
                    try simp only [Act.put, List.getElem_toArray, List.getElem_cons_zero, List.getElem_cons_succ, List.setIfInBounds_toArray, List.set_cons_zero, List.set_cons_succ]
                    refine wpAnyH_take (i := 19) (v := ?vg31) rfl (by kernel_rfl) (by kernel_rfl) (by kernel_rfl) (fun _ _ _ h => nomatch h.1) (Or.inl ⟨by kernel_rfl, ?yg31⟩) hHeld2 ?rg31
                    case yg31 => (intro w' hS; (try dsimp only at hS); obtain ⟨s0, s1, s2, s3⟩ := hS; (try go_simp); (try with_reducible rfl))
                    try simp only [Act.put, List.getElem_toArray, List.getElem_cons_zero, List.getElem_cons_succ, List.setIfInBounds_toArray, List.set_cons_zero, List.set_cons_succ]
                    refine wpAnyH_take (i := 20) (v := ?vg32) rfl (by kernel_rfl) (by kernel_rfl) (by kernel_rfl) (fun _ _ _ h => nomatch h.1) (Or.inl ⟨by kernel_rfl, ?yg32⟩) hHeld2 ?rg32
                    case yg32 => (intro w' hS; (try dsimp only at hS); obtain ⟨s0, s1, s2, s3⟩ := hS; (try go_simp); (try with_reducible rfl))
                    try simp only [Act.put, List.getElem_toArray, List.getElem_cons_zero, List.getElem_cons_succ, List.setIfInBounds_toArray, List.set_cons_zero, List.set_cons_succ]
                    refine wpAnyH_take (i := 21) (v := undef) rfl (by kernel_rfl) (by kernel_rfl) (by kernel_rfl) (fun _ _ _ h => nomatch h.1) (Or.inr ⟨by kernel_rfl, rfl⟩) hHeld2 ?_
                    try simp only [Act.put, List.getElem_toArray, List.getElem_cons_zero, List.getElem_cons_succ, List.setIfInBounds_toArray, List.set_cons_zero, List.set_cons_succ]
                    refine wpAnyH_take (i := 22) (v := undef) rfl (by kernel_rfl) (by kernel_rfl) (by kernel_rfl) (fun _ _ _ h => nomatch h.1) (Or.inr ⟨by kernel_rfl, rfl⟩) hHeld2 ?_
                    try simp only [Act.put, List.getElem_toArray, List.getElem_cons_zero, List.getElem_cons_succ, List.setIfInBounds_toArray, List.set_cons_zero, List.set_cons_succ]
                    refine wpAnyH_take (i := 23) (v := undef) rfl (by kernel_rfl) (by kernel_rfl) (by kernel_rfl) (fun _ _ _ h => nomatch h.1) (Or.inr ⟨by kernel_rfl, rfl⟩) hHeld2 ?_
                    try simp only [Act.put, List.getElem_toArray, List.getElem_cons_zero, List.getElem_cons_succ, List.setIfInBounds_toArray, List.set_cons_zero, List.set_cons_succ]
                    refine wpAnyH_take (i := 24) (v := undef) rfl (by kernel_rfl) (by kernel_rfl) (by kernel_rfl) (fun _ _ _ h => nomatch h.1) (Or.inr ⟨by kernel_rfl, rfl⟩) hHeld2 ?_
                    try simp only [Act.put, List.getElem_toArray, List.getElem_cons_zero, List.getElem_cons_succ, List.setIfInBounds_toArray, List.set_cons_zero, List.set_cons_succ]
                    refine wpAnyH_take (i := 25) (v := undef) rfl (by kernel_rfl) (by kernel_rfl) (by kernel_rfl) (fun _ _ _ h => nomatch h.1) (Or.inr ⟨by kernel_rfl, rfl⟩) hHeld2 ?_
                    try simp only [Act.put, List.getElem_toArray, List.getElem_cons_zero, List.getElem_cons_succ, List.setIfInBounds_toArray, List.set_cons_zero, List.set_cons_succ]
                    refine wpAnyH_take (i := 26) (v := ?vg33) rfl (by kernel_rfl) (by kernel_rfl) (by kernel_rfl) (fun _ _ _ h => nomatch h.1) (Or.inl ⟨by kernel_rfl, ?yg33⟩) hHeld2 ?rg33
                    case yg33 => (intro w' hS; (try dsimp only at hS); obtain ⟨s0, s1, s2, s3⟩ := hS; (try go_simp); (try with_reducible rfl))
                    try simp only [Act.put, List.getElem_toArray, List.getElem_cons_zero, List.getElem_cons_succ, List.setIfInBounds_toArray, List.set_cons_zero, List.set_cons_succ]
                    refine wpAnyH_done (by kernel_rfl) ?_ _
                    have hv : bad1 k j a b = false := by rw [B1.out, en0, dn1, dn2]; rfl
                    refine ⟨rfl, hb2, ?_⟩
                    rw [hv]
                    exact cut_ex (by kernel_rfl)
                · have dn1 : decide (0 < ma) = false := decide_eq_false n1
                  refine wpAnyH_take (i := 6) (v := ?vg34) rfl (by kernel_rfl) (by kernel_rfl) (by kernel_rfl) (fun _ _ _ h => nomatch h.1) (Or.inl ⟨by kernel_rfl, ?yg34⟩) hHeld1 ?rg34
                  case yg34 => (intro w' hS; (try dsimp only at hS); obtain ⟨s0, s1, s2, s3⟩ := hS; (try go_simp); (try with_reducible rfl))
                  try simp only [Act.put, List.getElem_toArray, List.getElem_cons_zero, List.getElem_cons_succ, List.setIfInBounds_toArray, List.set_cons_zero, List.set_cons_succ]
                  refine wpAnyH_take (i := 7) (v := ?vg35) rfl (by kernel_rfl) (by kernel_rfl) (by kernel_rfl) (fun _ _ _ h => nomatch h.1) (Or.inl ⟨by kernel_rfl, ?yg35⟩) hHeld1 ?rg35
                  case yg35 => (intro w' hS; (try dsimp only at hS); obtain ⟨s0, s1, s2, s3⟩ := hS; (try go_simp); (try with_reducible rfl))
                  try simp only [Act.put, List.getElem_toArray, List.getElem_cons_zero, List.getElem_cons_succ, List.setIfInBounds_toArray, List.set_cons_zero, List.set_cons_succ]
                  refine wpAnyH_take (i := 8) (v := ?vg36) rfl (by kernel_rfl) (by kernel_rfl) (by kernel_rfl) (fun _ _ _ h => nomatch h.1) (Or.inl ⟨by kernel_rfl, ?yg36⟩) hHeld1 ?rg36
                  case yg36 => (intro w' hS; (try dsimp only at hS); obtain ⟨s0, s1, s2, s3⟩ := hS; (try go_simp); (try with_reducible rfl))
                  try simp only [Act.put, List.getElem_toArray, List.getElem_cons_zero, List.getElem_cons_succ, List.setIfInBounds_toArray, List.set_cons_zero, List.set_cons_succ]
                  refine wpAnyH_take (i := 9) (v := undef) rfl (by kernel_rfl) (by kernel_rfl) (by kernel_rfl) (fun _ _ _ h => nomatch h.1) (Or.inr ⟨by kernel_rfl, rfl⟩) hHeld1 ?_
                  try simp only [Act.put, List.getElem_toArray, List.getElem_cons_zero, List.getElem_cons_succ, List.setIfInBounds_toArray, List.set_cons_zero, List.set_cons_succ]
                  refine wpAnyH_take (i := 10) (v := undef) rfl (by kernel_rfl) (by kernel_rfl) (by kernel_rfl) (fun _ _ _ h => nomatch h.1) (Or.inr ⟨by kernel_rfl, rfl⟩) hHeld1 ?_
                  try simp only [Act.put, List.getElem_toArray, List.getElem_cons_zero, List.getElem_cons_succ, List.setIfInBounds_toArray, List.set_cons_zero, List.set_cons_succ]
                  refine wpAnyH_take (i := 11) (v := undef) rfl (by kernel_rfl) (by kernel_rfl) (by kernel_rfl) (fun _ _ _ h => nomatch h.1) (Or.inr ⟨by kernel_rfl, rfl⟩) hHeld1 ?_
                  try simp only [Act.put, List.getElem_toArray, List.getElem_cons_zero, List.getElem_cons_succ, List.setIfInBounds_toArray, List.set_cons_zero, List.set_cons_succ]
                  refine wpAnyH_take (i := 12) (v := ?vg37) rfl (by kernel_rfl) (by kernel_rfl) (by kernel_rfl) (fun _ _ _ h => nomatch h.1) (Or.inl ⟨by kernel_rfl, ?yg37⟩) hHeld1 ?rg37
                  case yg37 => (intro w' hS; (try dsimp only at hS); obtain ⟨s0, s1, s2, s3⟩ := hS; (try go_simp); (try with_reducible rfl))
                  try simp only [Act.put, List.getElem_toArray, List.getElem_cons_zero, List.getElem_cons_succ, List.setIfInBounds_toArray, List.set_cons_zero, List.set_cons_succ]
                  refine wpAnyH_take (i := 13) (v := ?vg38) rfl (by kernel_rfl) (by kernel_rfl) (by kernel_rfl) (fun _ _ _ h => nomatch h.1) (Or.inl ⟨by kernel_rfl, ?yg38⟩) hHeld1 ?rg38
                  case yg38 => (intro w' hS; (try dsimp only at hS); obtain ⟨s0, s1, s2, s3⟩ := hS; (try go_simp); (try with_reducible rfl))
                  try simp only [Act.put, List.getElem_toArray, List.getElem_cons_zero, List.getElem_cons_succ, List.setIfInBounds_toArray, List.set_cons_zero, List.set_cons_succ]
                  refine wpAnyH_take (i := 14) (v := undef) rfl (by kernel_rfl) (by kernel_rfl) (by kernel_rfl) (fun _ _ _ h => nomatch h.1) (Or.inr ⟨by kernel_rfl, rfl⟩) hHeld1 ?_
                  try simp only [Act.put, List.getElem_toArray, List.getElem_cons_zero, List.getElem_cons_succ, List.setIfInBounds_toArray, List.set_cons_zero, List.set_cons_succ]
                  refine wpAnyH_take (i := 15) (v := undef) rfl (by kernel_rfl) (by kernel_rfl) (by kernel_rfl) (fun _ _ _ h => nomatch h.1) (Or.inr ⟨by kernel_rfl, rfl⟩) hHeld1 ?_
                  try simp only [Act.put, List.getElem_toArray, List.getElem_cons_zero, List.getElem_cons_succ, List.setIfInBounds_toArray, List.set_cons_zero, List.set_cons_succ]
                  refine wpAnyH_take (i := 16) (v := undef) rfl (by kernel_rfl) (by kernel_rfl) (by kernel_rfl) (fun _ _ _ h => nomatch h.1) (Or.inr ⟨by kernel_rfl, rfl⟩) hHeld1 ?_
                  try simp only [Act.put, List.getElem_toArray, List.getElem_cons_zero, List.getElem_cons_succ, List.setIfInBounds_toArray, List.set_cons_zero, List.set_cons_succ]
                  refine wpAnyH_take (i := 17) (v := undef) rfl (by kernel_rfl) (by kernel_rfl) (by kernel_rfl) (fun _ _ _ h => nomatch h.1) (Or.inr ⟨by kernel_rfl, rfl⟩) hHeld1 ?_
                  try simp only [Act.put, List.getElem_toArray, List.getElem_cons_zero, List.getElem_cons_succ, List.setIfInBounds_toArray, List.set_cons_zero, List.set_cons_succ]
                  refine wpAnyH_take (i := 18) (v := undef) rfl (by kernel_rfl) (by kernel_rfl) (by kernel_rfl) (fun _ _ _ h => nomatch h.1) (Or.inr ⟨by kernel_rfl, rfl⟩) hHeld1 ?_
                  try simp only [Act.put, List.getElem_toArray, List.getElem_cons_zero, List.getElem_cons_succ, List.setIfInBounds_toArray, List.set_cons_zero, List.set_cons_succ]
                  refine wpAnyH_take (i := 19) (v := ?vg39) rfl (by kernel_rfl) (by kernel_rfl) (by kernel_rfl) (fun _ _ _ h => nomatch h.1) (Or.inl ⟨by kernel_rfl, ?yg39⟩) hHeld1 ?rg39
                  case yg39 => (intro w' hS; (try dsimp only at hS); obtain ⟨s0, s1, s2, s3⟩ := hS; (try go_simp); (try with_reducible rfl))
                  try simp only [Act.put, List.getElem_toArray, List.getElem_cons_zero, List.getElem_cons_succ, List.setIfInBounds_toArray, List.set_cons_zero, List.set_cons_succ]
                  refine wpAnyH_take (i := 20) (v := ?vg40) rfl (by kernel_rfl) (by kernel_rfl) (by kernel_rfl) (fun _ _ _ h => nomatch h.1) (Or.inl ⟨by kernel_rfl, ?yg40⟩) hHeld1 ?rg40
                  case yg40 => (intro w' hS; (try dsimp only at hS); obtain ⟨s0, s1, s2, s3⟩ := hS; (try go_simp); (try with_reducible rfl))
                  try simp only [Act.put, List.getElem_toArray, List.getElem_cons_zero, List.getElem_cons_succ, List.setIfInBounds_toArray, List.set_cons_zero, List.set_cons_succ]
                  refine wpAnyH_take (i := 21) (v := undef) rfl (by kernel_rfl) (by kernel_rfl) (by kernel_rfl) (fun _ _ _ h => nomatch h.1) (Or.inr ⟨by kernel_rfl, rfl⟩) hHeld1 ?_
                  try simp only [Act.put, List.getElem_toArray, List.getElem_cons_zero, List.getElem_cons_succ, List.setIfInBounds_toArray, List.set_cons_zero, List.set_cons_succ]
                  refine wpAnyH_take (i := 22) (v := undef) rfl (by kernel_rfl) (by kernel_rfl) (by kernel_rfl) (fun _ _ _ h => nomatch h.1) (Or.inr ⟨by kernel_rfl, rfl⟩) hHeld1 ?_
                  try simp only [Act.put, List.getElem_toArray, List.getElem_cons_zero, List.getElem_cons_succ, List.setIfInBounds_toArray, List.set_cons_zero, List.set_cons_succ]
                  refine wpAnyH_take (i := 23) (v := undef) rfl (by kernel_rfl) (by kernel_rfl) (by kernel_rfl) (fun _ _ _ h => nomatch h.1) (Or.inr ⟨by kernel_rfl, rfl⟩) hHeld1 ?_
                  try simp only [Act.put, List.getElem_toArray, List.getElem_cons_zero, List.getElem_cons_succ, List.setIfInBounds_toArray, List.set_cons_zero, List.set_cons_succ]
                  refine wpAnyH_take (i := 24) (v := undef) rfl (by kernel_rfl) (by kernel_rfl) (by kernel_rfl) (fun _ _ _ h => nomatch h.1) (Or.inr ⟨by kernel_rfl, rfl⟩) hHeld1 ?_
                  try simp only [Act.put, List.getElem_toArray, List.getElem_cons_zero, List.getElem_cons_succ, List.setIfInBounds_toArray, List.set_cons_zero, List.set_cons_succ]
                  refine wpAnyH_take (i := 25) (v := undef) rfl (by kernel_rfl) (by kernel_rfl) (by kernel_rfl) (fun _ _ _ h => nomatch h.1) (Or.inr ⟨by kernel_rfl, rfl⟩) hHeld1 ?_
                  try simp only [Act.put, List.getElem_toArray, List.getElem_cons_zero, List.getElem_cons_succ, List.setIfInBounds_toArray, List.set_cons_zero, List.set_cons_succ]
                  refine wpAnyH_take (i := 26) (v := ?vg41) rfl (by kernel_rfl) (by kernel_rfl) (by kernel_rfl) (fun _ _ _ h => nomatch h.1) (Or.inl ⟨by kernel_rfl, ?yg41⟩) hHeld1 ?rg41
                  case yg41 => (intro w' hS; (try dsimp only at hS); obtain ⟨s0, s1, s2, s3⟩ := hS; (try go_simp); (try with_reducible rfl))
                  try simp only [Act.put, List.getElem_toArray, List.getElem_cons_zero, List.getElem_cons_succ, List.setIfInBounds_toArray, List.set_cons_zero, List.set_cons_succ]
                  refine wpAnyH_done (by kernel_rfl) ?_ _
                  have hv : bad1 k j a b = false := by rw [B1.out, en0, dn1]; rfl
                  refine ⟨rfl, hb1, ?_⟩
                  rw [hv]
                  exact cut_ex (by kernel_rfl)
              · have dn0 : ((k : Int) != (j : Int)) = false := by rw [bne_eq_false_iff_eq]; omega
                have en0 : decide (k ≠ j) = false := decide_eq_false n0
                refine wpAnyH_take (i := 2) (v := ?vg42) rfl (by kernel_rfl) (by kernel_rfl) (by kernel_rfl) (fun _ _ _ h => nomatch h.1) (Or.inl ⟨by kernel_rfl, ?yg42⟩) hHeld0 ?rg42
                case yg42 => (intro w' hS; (try dsimp only at hS); obtain ⟨s0, s1, s2, s3⟩ := hS; (try go_simp); (try with_reducible rfl))
                try simp only [Act.put, List.getElem_toArray, List.getElem_cons_zero, List.getElem_cons_succ, List.setIfInBounds_toArray, List.set_cons_zero, List.set_cons_succ]
                refine wpAnyH_take (i := 3) (v := ?vg43) rfl (by kernel_rfl) (by kernel_rfl) (by kernel_rfl) (fun _ _ _ h => nomatch h.1) (Or.inl ⟨by kernel_rfl, ?yg43⟩) hHeld0 ?rg43
                case yg43 => (intro w' hS; (try dsimp only at hS); obtain ⟨s0, s1, s2, s3⟩ := hS; (try go_simp); (try with_reducible rfl))
                try simp only [Act.put, List.getElem_toArray, List.getElem_cons_zero, List.getElem_cons_succ, List.setIfInBounds_toArray, List.set_cons_zero, List.set_cons_succ]
                refine wpAnyH_take (i := 4) (v := undef) rfl (by kernel_rfl) (by kernel_rfl) (by kernel_rfl) (fun _ _ _ h => nomatch h.1) (Or.inr ⟨by kernel_rfl, rfl⟩) hHeld0 ?_
                try simp only [Act.put, List.getElem_toArray, List.getElem_cons_zero, List.getElem_cons_succ, List.setIfInBounds_toArray, List.set_cons_zero, List.set_cons_succ]
                refine wpAnyH_take (i := 5) (v := undef) rfl (by kernel_rfl) (by kernel_rfl) (by kernel_rfl) (fun _ _ _ h => nomatch h.1) (Or.inr ⟨by kernel_rfl, rfl⟩) hHeld0 ?_
                try simp only [Act.put, List.getElem_toArray, List.getElem_cons_zero, List.getElem_cons_succ, List.setIfInBounds_toArray, List.set_cons_zero, List.set_cons_succ]
                refine wpAnyH_take (i := 6) (v := undef) rfl (by kernel_rfl) (by kernel_rfl) (by kernel_rfl) (fun _ _ _ h => nomatch h.1) (Or.inr ⟨by kernel_rfl, rfl⟩) hHeld0 ?_
                try simp only [Act.put, List.getElem_toArray, List.getElem_cons_zero, List.getElem_cons_succ, List.setIfInBounds_toArray, List.set_cons_zero, List.set_cons_succ]
                refine wpAnyH_take (i := 7) (v := ?vg44) rfl (by kernel_rfl) (by kernel_rfl) (by kernel_rfl) (fun _ _ _ h => nomatch h.1) (Or.inl ⟨by kernel_rfl, ?yg44⟩) hHeld0 ?rg44
                case yg44 => (intro w' hS; (try dsimp only at hS); obtain ⟨s0, s1, s2, s3⟩ := hS; (try go_simp); (try with_reducible rfl))
                try simp only [Act.put, List.getElem_toArray, List.getElem_cons_zero, List.getElem_cons_succ, List.setIfInBounds_toArray, List.set_cons_zero, List.set_cons_succ]
                refine wpAnyH_take (i := 8) (v := ?vg45) rfl (by kernel_rfl) (by kernel_rfl) (by kernel_rfl) (fun _ _ _ h => nomatch h.1) (Or.inl ⟨by kernel_rfl, ?yg45⟩) hHeld0 ?rg45
                case yg45 => (intro w' hS; (try dsimp only at hS); obtain ⟨s0, s1, s2, s3⟩ := hS; (try go_simp); (try with_reducible rfl))
                try simp only [Act.put, List.getElem_toArray, List.getElem_cons_zero, List.getElem_cons_succ, List.setIfInBounds_toArray, List.set_cons_zero, List.set_cons_succ]
                refine wpAnyH_take (i := 9) (v := undef) rfl (by kernel_rfl) (by kernel_rfl) (by kernel_rfl) (fun _ _ _ h => nomatch h.1) (Or.inr ⟨by kernel_rfl, rfl⟩) hHeld0 ?_
                try simp only [Act.put, List.getElem_toArray, List.getElem_cons_zero, List.getElem_cons_succ, List.setIfInBounds_toArray, List.set_cons_zero, List.set_cons_succ]
                refine wpAnyH_take (i := 10) (v := undef) rfl (by kernel_rfl) (by kernel_rfl) (by kernel_rfl) (fun _ _ _ h => nomatch h.1) (Or.inr ⟨by kernel_rfl, rfl⟩) hHeld0 ?_
                try simp only [Act.put, List.getElem_toArray, List.getElem_cons_zero, List.getElem_cons_succ, List.setIfInBounds_toArray, List.set_cons_zero, List.set_cons_succ]
                refine wpAnyH_take (i := 11) (v := undef) rfl (by kernel_rfl) (by kernel_rfl) (by kernel_rfl) (fun _ _ _ h => nomatch h.1) (Or.inr ⟨by kernel_rfl, rfl⟩) hHeld0 ?_
                try simp only [Act.put, List.getElem_toArray, List.getElem_cons_zero, List.getElem_cons_succ, List.setIfInBounds_toArray, List.set_cons_zero, List.set_cons_succ]
                refine wpAnyH_take (i := 12) (v := ?vg46) rfl (by kernel_rfl) (by kernel_rfl) (by kernel_rfl) (fun _ _ _ h => nomatch h.1) (Or.inl ⟨by kernel_rfl, ?yg46⟩) hHeld0 ?rg46
                case yg46 => (intro w' hS; (try dsimp only at hS); obtain ⟨s0, s1, s2, s3⟩ := hS; (try go_simp); (try with_reducible rfl))
                try simp only [Act.put, List.getElem_toArray, List.getElem_cons_zero, List.getElem_cons_succ, List.setIfInBounds_toArray, List.set_cons_zero, List.set_cons_succ]
                refine wpAnyH_take (i := 13) (v := ?vg47) rfl (by kernel_rfl) (by kernel_rfl) (by kernel_rfl) (fun _ _ _ h => nomatch h.1) (Or.inl ⟨by kernel_rfl, ?yg47⟩) hHeld0 ?rg47
                case yg47 => (intro w' hS; (try dsimp only at hS); obtain ⟨s0, s1, s2, s3⟩ := hS; (try go_simp); (try with_reducible rfl))
                try simp only [Act.put, List.getElem_toArray, List.getElem_cons_zero, List.getElem_cons_succ, List.setIfInBounds_toArray, List.set_cons_zero, List.set_cons_succ]
                refine wpAnyH_take (i := 14) (v := undef) rfl (by kernel_rfl) (by kernel_rfl) (by kernel_rfl) (fun _ _ _ h => nomatch h.1) (Or.inr ⟨by kernel_rfl, rfl⟩) hHeld0 ?_
                try simp only [Act.put, List.getElem_toArray, List.getElem_cons_zero, List.getElem_cons_succ, List.setIfInBounds_toArray, List.set_cons_zero, List.set_cons_succ]
                refine wpAnyH_take (i := 15) (v := undef) rfl (by kernel_rfl) (by kernel_rfl) (by kernel_rfl) (fun _ _ _ h => nomatch h.1) (Or.inr ⟨by kernel_rfl, rfl⟩) hHeld0 ?_
                try simp only [Act.put, List.getElem_toArray, List.getElem_cons_zero, List.getElem_cons_succ, List.setIfInBounds_toArray, List.set_cons_zero, List.set_cons_succ]
                refine wpAnyH_take (i := 16) (v := undef) rfl (by kernel_rfl) (by kernel_rfl) (by kernel_rfl) (fun _ _ _ h => nomatch h.1) (Or.inr ⟨by kernel_rfl, rfl⟩) hHeld0 ?_
                try simp only [Act.put, List.getElem_toArray, List.getElem_cons_zero, List.getElem_cons_succ, List.setIfInBounds_toArray, List.set_cons_zero, List.set_cons_succ]
                refine wpAnyH_take (i := 17) (v := undef) rfl (by kernel_rfl) (by kernel_rfl) (by kernel_rfl) (fun _ _ _ h => nomatch h.1) (Or.inr ⟨by kernel_rfl, rfl⟩) hHeld0 ?_
                try simp only [Act.put, List.getElem_toArray, List.getElem_cons_zero, List.getElem_cons_succ, List.setIfInBounds_toArray, List.set_cons_zero, List.set_cons_succ]
                refine wpAnyH_take (i := 18) (v := undef) rfl (by kernel_rfl) (by kernel_rfl) (by kernel_rfl) (fun _ _ _ h => nomatch h.1) (Or.inr ⟨by kernel_rfl, rfl⟩) hHeld0 ?_
                try simp only [Act.put, List.getElem_toArray, List.getElem_cons_zero, List.getElem_cons_succ, List.setIfInBounds_toArray, List.set_cons_zero, List.set_cons_succ]
                refine wpAnyH_take (i := 19) (v := ?vg48) rfl (by kernel_rfl) (by kernel_rfl) (by kernel_rfl) (fun _ _ _ h => nomatch h.1) (Or.inl ⟨by kernel_rfl, ?yg48⟩) hHeld0 ?rg48
                case yg48 => (intro w' hS; (try dsimp only at hS); obtain ⟨s0, s1, s2, s3⟩ := hS; (try go_simp); (try with_reducible rfl))
                try simp only [Act.put, List.getElem_toArray, List.getElem_cons_zero, List.getElem_cons_succ, List.setIfInBounds_toArray, List.set_cons_zero, List.set_cons_succ]
                refine wpAnyH_take (i := 20) (v := ?vg49) rfl (by kernel_rfl) (by kernel_rfl) (by kernel_rfl) (fun _ _ _ h => nomatch h.1) (Or.inl ⟨by kernel_rfl, ?yg49⟩) hHeld0 ?rg49
                case yg49 => (intro w' hS; (try dsimp only at hS); obtain ⟨s0, s1, s2, s3⟩ := hS; (try go_simp); (try with_reducible rfl))
                try simp only [Act.put, List.getElem_toArray, List.getElem_cons_zero, List.getElem_cons_succ, List.setIfInBounds_toArray, List.set_cons_zero, List.set_cons_succ]
                refine wpAnyH_take (i := 21) (v := undef) rfl (by kernel_rfl) (by kernel_rfl) (by kernel_rfl) (fun _ _ _ h => nomatch h.1) (Or.inr ⟨by kernel_rfl, rfl⟩) hHeld0 ?_
                try simp only [Act.put, List.getElem_toArray, List.getElem_cons_zero, List.getElem_cons_succ, List.setIfInBounds_toArray, List.set_cons_zero, List.set_cons_succ]
                refine wpAnyH_take (i := 22) (v := undef) rfl (by kernel_rfl) (by kernel_rfl) (by kernel_rfl) (fun _ _ _ h => nomatch h.1) (Or.inr ⟨by kernel_rfl, rfl⟩) hHeld0 ?_
                try simp only [Act.put, List.getElem_toArray, List.getElem_cons_zero, List.getElem_cons_succ, List.setIfInBounds_toArray, List.set_cons_zero, List.set_cons_succ]
                refine wpAnyH_take (i := 23) (v := undef) rfl (by kernel_rfl) (by kernel_rfl) (by kernel_rfl) (fun _ _ _ h => nomatch h.1) (Or.inr ⟨by kernel_rfl, rfl⟩) hHeld0 ?_
                try simp only [Act.put, List.getElem_toArray, List.getElem_cons_zero, List.getElem_cons_succ, List.setIfInBounds_toArray, List.set_cons_zero, List.set_cons_succ]
                refine wpAnyH_take (i := 24) (v := undef) rfl (by kernel_rfl) (by kernel_rfl) (by kernel_rfl) (fun _ _ _ h => nomatch h.1) (Or.inr ⟨by kernel_rfl, rfl⟩) hHeld0 ?_
                try simp only [Act.put, List.getElem_toArray, List.getElem_cons_zero, List.getElem_cons_succ, List.setIfInBounds_toArray, List.set_cons_zero, List.set_cons_succ]
                refine wpAnyH_take (i := 25) (v := undef) rfl (by kernel_rfl) (by kernel_rfl) (by kernel_rfl) (fun _ _ _ h => nomatch h.1) (Or.inr ⟨by kernel_rfl, rfl⟩) hHeld0 ?_
                try simp only [Act.put, List.getElem_toArray, List.getElem_cons_zero, List.getElem_cons_succ, List.setIfInBounds_toArray, List.set_cons_zero, List.set_cons_succ]
                refine wpAnyH_take (i := 26) (v := ?vg50) rfl (by kernel_rfl) (by kernel_rfl) (by kernel_rfl) (fun _ _ _ h => nomatch h.1) (Or.inl ⟨by kernel_rfl, ?yg50⟩) hHeld0 ?rg50
                case yg50 => (intro w' hS; (try dsimp only at hS); obtain ⟨s0, s1, s2, s3⟩ := hS; (try go_simp); (try with_reducible rfl))
                try simp only [Act.put, List.getElem_toArray, List.getElem_cons_zero, List.getElem_cons_succ, List.setIfInBounds_toArray, List.set_cons_zero, List.set_cons_succ]
                refine wpAnyH_done (by kernel_rfl) ?_ _
                have hv : bad1 k j a b = false := by rw [B1.out, en0]; rfl
                refine ⟨rfl, hb0, ?_⟩
                rw [hv]
                exact cut_ex (by kernel_rfl)
            case rest11 =>
              intro x W3 hc3
              by_cases hv1 : bad1 k j a b = true
              · have hx : Hid (allOrd f 0 f = false) := by rw [Hid, hT2.out, show rowOrd k a 0 f = false from by rw [hU2.out, if_pos (Or.inl hv1)]]; rfl
                rw [hv1]
                go_wp2
                go_ret
                exact ⟨ret_bool (by rw [hfin.out, hx.out]), hb1.trans ((hcl _ hc3).mono hb1.size)⟩
              · rw [show bad1 k j a b = false from by simpa using hv1]
                have hbz : Below W2.heap.size W2 W3.drew := hc3.drew
                go_wp2
                refine wp_cut (fun x => { tmps := #[Value.slice (some ⟨g, o, none⟩) 4 c, undef, x 2, Value.int .i64 (k : Int), Value.int .i64 (j : Int), Value.pointer (some ⟨wr.heap.size, 0, none⟩), Value.pointer (some ⟨wr.heap.size + 1, 0, none⟩), Value.slice (some ⟨g, o, none⟩) 4 c, Value.bool true, Value.bool false, Value.int .i64 (k : Int), Value.slice (some ⟨g, o, none⟩) 4 c, Value.int .i64 4, Value.bool true, u14, u15, x 16, x 17, x 18, x 19, x 20, x 21, x 22, x 23, x 24, x 25, x 26, x 27, x 28, x 29, x 30, x 31, x 32, x 33, x 34, x 35, x 36, x 37, x 38, x 39, x 40, x 41, x 42, x 43, x 44, x 45, x 46, x 47, x 48, x 49, x 50, x 51, x 52, x 53, x 54, x 55, Value.bool false, x 57, x 58, x 59, x 60, x 61, x 62, x 63, x 64, x 65, x 66, x 67, x 68, x 69, x 70, x 71, x 72, x 73, x 74, x 75, x 76, x 77, x 78, x 79, x 80, x 81, x 82, x 83, x 84, x 85, x 86, x 87, x 88, x 89, x 90, Value.bool (bad2 k j a b)], defers := [] }) (fun X => Below W2.heap.size W2 X) ?reg13 ?rest13
                case reg13 =>
                  refine wp_region_held_drew (S := fun X => X.cell? ⟨wr.heap.size, 0, none⟩ = some (.slice Z a.pages.length cz) ∧ X.cell? ⟨wr.heap.size, 1, none⟩ = some (.int .i64 a.worn) ∧ X.cell? ⟨wr.heap.size + 1, 0, none⟩ = some (.slice Y b.pages.length cy) ∧ X.cell? ⟨wr.heap.size + 1, 1, none⟩ = some (.int .i64 b.worn)) (by kernel_rfl) (SS.out _ hbz) (fun hHeld0 => ?_)
                  refine wpAnyH_take (i := 0) (v := ?vh1) rfl (by kernel_rfl) (by kernel_rfl) (by kernel_rfl) (fun _ _ _ h => nomatch h.1) (Or.inl ⟨by kernel_rfl, ?yh1⟩) hHeld0 ?rh1
                  case yh1 => (intro w' hS; (try dsimp only at hS); obtain ⟨s0, s1, s2, s3⟩ := hS; (try go_simp); (try with_reducible rfl))
                  try simp only [Act.put, List.getElem_toArray, List.getElem_cons_zero, List.getElem_cons_succ, List.setIfInBounds_toArray, List.set_cons_zero, List.set_cons_succ]
                  refine wpAnyH_take (i := 1) (v := ?vh2) rfl (by kernel_rfl) (by kernel_rfl) (by kernel_rfl) (fun _ _ _ h => nomatch h.1) (Or.inl ⟨by kernel_rfl, ?yh2⟩) hHeld0 ?rh2
                  case yh2 => (intro w' hS; (try dsimp only at hS); obtain ⟨s0, s1, s2, s3⟩ := hS; (try go_simp); (try with_reducible rfl))
                  try simp only [Act.put, List.getElem_toArray, List.getElem_cons_zero, List.getElem_cons_succ, List.setIfInBounds_toArray, List.set_cons_zero, List.set_cons_succ]
                  by_cases n0 : k ≠ j
                  · have dn0 : ((k : Int) != (j : Int)) = true := by rw [bne_iff_ne]; omega
                    have en0 : decide (k ≠ j) = true := decide_eq_true n0
                    refine wpAnyH_take (i := 2) (v := ?vh3) rfl (by kernel_rfl) (by kernel_rfl) (by kernel_rfl) (fun _ _ _ h => nomatch h.1) (Or.inl ⟨by kernel_rfl, ?yh3⟩) hHeld0 ?rh3
                    case yh3 => (intro w' hS; (try dsimp only at hS); obtain ⟨s0, s1, s2, s3⟩ := hS; (try go_simp); (try with_reducible rfl))
                    try simp only [Act.put, List.getElem_toArray, List.getElem_cons_zero, List.getElem_cons_succ, List.setIfInBounds_toArray, List.set_cons_zero, List.set_cons_succ]
                    refine wpAnyH_take (i := 3) (v := ?vh4) rfl (by kernel_rfl) (by kernel_rfl) (by kernel_rfl) (fun _ _ _ h => nomatch h.1) (Or.inl ⟨by kernel_rfl, ?yh4⟩) hHeld0 ?rh4
                    case yh4 => (intro w' hS; (try dsimp only at hS); obtain ⟨s0, s1, s2, s3⟩ := hS; (try go_simp); (try with_reducible rfl))
                    try simp only [Act.put, List.getElem_toArray, List.getElem_cons_zero, List.getElem_cons_succ, List.setIfInBounds_toArray, List.set_cons_zero, List.set_cons_succ]
                    refine wpAnyH_take (i := 4) (v := ?vh5) rfl (by kernel_rfl) (by kernel_rfl) (by kernel_rfl) (fun _ _ _ h => nomatch h.1) (Or.inl ⟨by kernel_rfl, ?yh5⟩) hHeld0 ?rh5
                    case yh5 => (intro w' hS; (try dsimp only at hS); obtain ⟨s0, s1, s2, s3⟩ := hS; (try go_simp); (try with_reducible rfl))
                    try simp only [Act.put, List.getElem_toArray, List.getElem_cons_zero, List.getElem_cons_succ, List.setIfInBounds_toArray, List.set_cons_zero, List.set_cons_succ]
                    refine wpAnyH_ready (rs := [5]) (by kernel_rfl) (by simp) ?_
                    refine AllReadyH.cons rfl (fun K hK => ?_) AllReadyH.nil
                    go_simp
                    refine (CA.out _ hbz).mono ?_
                    rintro e x1 ⟨rfl, hc1⟩
                    have hb1 := hbz.trans (hc1.mono hbz.size)
                    clear hc1
                    go_wp2_with fail
                    refine hK.out _ _ (SS.out _ hb1) (fun hHeld1 => ?_)
                    clear hK K
                    try simp only [Act.put, List.getElem_toArray, List.getElem_cons_zero, List.getElem_cons_succ, List.setIfInBounds_toArray, List.set_cons_zero, List.set_cons_succ]
                    by_cases n1 : 0 < ca
                    · have dn1 : decide (0 < ca) = true := decide_eq_true n1
                      refine wpAnyH_take (i := 6) (v := ?vh6) rfl (by kernel_rfl) (by kernel_rfl) (by kernel_rfl) (fun _ _ _ h => nomatch h.1) (Or.inl ⟨by kernel_rfl, ?yh6⟩) hHeld1 ?rh6
                      case yh6 => (intro w' hS; (try dsimp only at hS); obtain ⟨s0, s1, s2, s3⟩ := hS; (try go_simp); (try with_reducible rfl))
                      try simp only [Act.put, List.getElem_toArray, List.getElem_cons_zero, List.getElem_cons_succ, List.setIfInBounds_toArray, List.set_cons_zero, List.set_cons_succ]
                      refine wpAnyH_take (i := 7) (v := ?vh7) rfl (by kernel_rfl) (by kernel_rfl) (by kernel_rfl) (fun _ _ _ h => nomatch h.1) (Or.inl ⟨by kernel_rfl, ?yh7⟩) hHeld1 ?rh7
                      case yh7 => (intro w' hS; (try dsimp only at hS); obtain ⟨s0, s1, s2, s3⟩ := hS; (try go_simp); (try with_reducible rfl))
                      try simp only [Act.put, List.getElem_toArray, List.getElem_cons_zero, List.getElem_cons_succ, List.setIfInBounds_toArray, List.set_cons_zero, List.set_cons_succ]
                      refine wpAnyH_take (i := 8) (v := ?vh8) rfl (by kernel_rfl) (by kernel_rfl) (by kernel_rfl) (fun _ _ _ h => nomatch h.1) (Or.inl ⟨by kernel_rfl, ?yh8⟩) hHeld1 ?rh8
                      case yh8 => (intro w' hS; (try dsimp only at hS); obtain ⟨s0, s1, s2, s3⟩ := hS; (try go_simp); (try with_reducible rfl))
                      try simp only [Act.put, List.getElem_toArray, List.getElem_cons_zero, List.getElem_cons_succ, List.setIfInBounds_toArray, List.set_cons_zero, List.set_cons_succ]
                      refine wpAnyH_take (i := 9) (v := ?vh9) rfl (by kernel_rfl) (by kernel_rfl) (by kernel_rfl) (fun _ _ _ h => nomatch h.1) (Or.inl ⟨by kernel_rfl, ?yh9⟩) hHeld1 ?rh9
                      case yh9 => (intro w' hS; (try dsimp only at hS); obtain ⟨s0, s1, s2, s3⟩ := hS; (try go_simp); (try with_reducible rfl))
                      try simp only [Act.put, List.getElem_toArray, List.getElem_cons_zero, List.getElem_cons_succ, List.setIfInBounds_toArray, List.set_cons_zero, List.set_cons_succ]
                      refine wpAnyH_ready (rs := [10]) (by kernel_rfl) (by simp) ?_
                      refine AllReadyH.cons rfl (fun K hK => ?_) AllReadyH.nil
                      go_simp
                      refine (CA.out _ hb1).mono ?_
                      rintro e x2 ⟨rfl, hc2⟩
                      have hb2 := hb1.trans (hc2.mono hb1.size)
                      clear hc2
                      go_wp2_with fail
                      refine hK.out _ _ (SS.out _ hb2) (fun hHeld2 => ?_)
                      clear hK K
                      try simp only [Act.put, List.getElem_toArray, List.getElem_cons_zero, List.getElem_cons_succ, List.setIfInBounds_toArray, List.set_cons_zero, List.set_cons_succ]
                      by_cases n2 : ca < 4
                      · have dn2 : decide (ca < 4) = true := decide_eq_true n2
                        refine wpAnyH_take (i := 11) (v := ?vh10) rfl (by kernel_rfl) (by kernel_rfl) (by kernel_rfl) (fun _ _ _ h => nomatch h.1) (Or.inl ⟨by kernel_rfl, ?yh10⟩) hHeld2 ?rh10
                        case yh10 => (intro w' hS; (try dsimp only at hS); obtain ⟨s0, s1, s2, s3⟩ := hS; (try go_simp); (try with_reducible rfl))
                        try simp only [Act.put, List.getElem_toArray, List.getElem_cons_zero, List.getElem_cons_succ, List.setIfInBounds_toArray, List.set_cons_zero, List.set_cons_succ]
                        refine wpAnyH_take (i := 12) (v := ?vh11) rfl (by kernel_rfl) (by kernel_rfl) (by kernel_rfl) (fun _ _ _ h => nomatch h.1) (Or.inl ⟨by kernel_rfl, ?yh11⟩) hHeld2 ?rh11
                        case yh11 => (intro w' hS; (try dsimp only at hS); obtain ⟨s0, s1, s2, s3⟩ := hS; (try go_simp); (try with_reducible rfl))
                        try simp only [Act.put, List.getElem_toArray, List.getElem_cons_zero, List.getElem_cons_succ, List.setIfInBounds_toArray, List.set_cons_zero, List.set_cons_succ]
                        refine wpAnyH_take (i := 13) (v := ?vh12) rfl (by kernel_rfl) (by kernel_rfl) (by kernel_rfl) (fun _ _ _ h => nomatch h.1) (Or.inl ⟨by kernel_rfl, ?yh12⟩) hHeld2 ?rh12
                        case yh12 => (intro w' hS; (try dsimp only at hS); obtain ⟨s0, s1, s2, s3⟩ := hS; (try go_simp); (try with_reducible rfl))
                        try simp only [Act.put, List.getElem_toArray, List.getElem_cons_zero, List.getElem_cons_succ, List.setIfInBounds_toArray, List.set_cons_zero, List.set_cons_succ]
                        refine wpAnyH_take (i := 14) (v := ?vh13) rfl (by kernel_rfl) (by kernel_rfl) (by kernel_rfl) (fun _ _ _ h => nomatch h.1) (Or.inl ⟨by kernel_rfl, ?yh13⟩) hHeld2 ?rh13
                        case yh13 => (intro w' hS; (try dsimp only at hS); obtain ⟨s0, s1, s2, s3⟩ := hS; (try go_simp); (try with_reducible rfl))
                        try simp only [Act.put, List.getElem_toArray, List.getElem_cons_zero, List.getElem_cons_succ, List.setIfInBounds_toArray, List.set_cons_zero, List.set_cons_succ]
                        refine wpAnyH_ready (rs := [15]) (by kernel_rfl) (by simp) ?_
                        refine AllReadyH.cons rfl (fun K hK => ?_) AllReadyH.nil
                        go_simp
                        refine (CB.out _ hb2).mono ?_
                        rintro e x3 ⟨rfl, hc3⟩
                        have hb3 := hb2.trans (hc3.mono hb2.size)
                        clear hc3
                        go_wp2_with fail
                        refine hK.out _ _ (SS.out _ hb3) (fun hHeld3 => ?_)
                        clear hK K
                        try simp only [Act.put, List.getElem_toArray, List.getElem_cons_zero, List.getElem_cons_succ, List.setIfInBounds_toArray, List.set_cons_zero, List.set_cons_succ]
                        by_cases n3 : 0 < cb
                        · have dn3 : decide (0 < cb) = true := decide_eq_true n3
                          refine wpAnyH_take (i := 16) (v := ?vh14) rfl (by kernel_rfl) (by kernel_rfl) (by kernel_rfl) (fun _ _ _ h => nomatch h.1) (Or.inl ⟨by kernel_rfl, ?yh14⟩) hHeld3 ?rh14
                          case yh14 => (intro w' hS; (try dsimp only at hS); obtain ⟨s0, s1, s2, s3⟩ := hS; (try go_simp); (try with_reducible rfl))
                          try simp only [Act.put, List.getElem_toArray, List.getElem_cons_zero, List.getElem_cons_succ, List.setIfInBounds_toArray, List.set_cons_zero, List.set_cons_succ]
                          refine wpAnyH_take (i := 17) (v := ?vh15) rfl (by kernel_rfl) (by kernel_rfl) (by kernel_rfl) (fun _ _ _ h => nomatch h.1) (Or.inl ⟨by kernel_rfl, ?yh15⟩) hHeld3 ?rh15
                          case yh15 => (intro w' hS; (try dsimp only at hS); obtain ⟨s0, s1, s2, s3⟩ := hS; (try go_simp); (try with_reducible rfl))
                          try simp only [Act.put, List.getElem_toArray, List.getElem_cons_zero, List.getElem_cons_succ, List.setIfInBounds_toArray, List.set_cons_zero, List.set_cons_succ]
                          refine wpAnyH_take (i := 18) (v := ?vh16) rfl (by kernel_rfl) (by kernel_rfl) (by kernel_rfl) (fun _ _ _ h => nomatch h.1) (Or.inl ⟨by kernel_rfl, ?yh16⟩) hHeld3 ?rh16
                          case yh16 => (intro w' hS; (try dsimp only at hS); obtain ⟨s0, s1, s2, s3⟩ := hS; (try go_simp); (try with_reducible rfl))
                          try simp only [Act.put, List.getElem_toArray, List.getElem_cons_zero, List.getElem_cons_succ, List.setIfInBounds_toArray, List.set_cons_zero, List.set_cons_succ]
                          refine wpAnyH_ready (rs := [19]) (by kernel_rfl) (by simp) ?_
                          refine AllReadyH.cons rfl (fun K hK => ?_) AllReadyH.nil
                          go_simp
                          refine (CB.out _ hb3).mono ?_
                          rintro e x4 ⟨rfl, hc4⟩
                          have hb4 := hb3.trans (hc4.mono hb3.size)
                          clear hc4
                          go_wp2_with fail
                          refine hK.out _ _ (SS.out _ hb4) (fun hHeld4 => ?_)
                          clear hK K
                          try simp only [Act.put, List.getElem_toArray, List.getElem_cons_zero, List.getElem_cons_succ, List.setIfInBounds_toArray, List.set_cons_zero, List.set_cons_succ]
                          by_cases n4 : cb < 4
                          · have dn4 : decide (cb < 4) = true := decide_eq_true n4
                            refine wpAnyH_take (i := 20) (v := ?vh17) rfl (by kernel_rfl) (by kernel_rfl) (by kernel_rfl) (fun _ _ _ h => nomatch h.1) (Or.inl ⟨by kernel_rfl, ?yh17⟩) hHeld4 ?rh17
                            case yh17 => (intro w' hS; (try dsimp only at hS); obtain ⟨s0, s1, s2, s3⟩ := hS; (try go_simp); (try with_reducible rfl))
                            try simp only [Act.put, List.getElem_toArray, List.getElem_cons_zero, List.getElem_cons_succ, List.setIfInBounds_toArray, List.set_cons_zero, List.set_cons_succ]
                            refine wpAnyH_take (i := 21) (v := ?vh18) rfl (by kernel_rfl) (by kernel_rfl) (by kernel_rfl) (fun _ _ _ h => nomatch h.1) (Or.inl ⟨by kernel_rfl, ?yh18⟩) hHeld4 ?rh18
                            case yh18 => (intro w' hS; (try dsimp only at hS); obtain ⟨s0, s1, s2, s3⟩ := hS; (try go_simp); (try with_reducible rfl))
                            try simp only [Act.put, List.getElem_toArray, List.getElem_cons_zero, List.getElem_cons_succ, List.setIfInBounds_toArray, List.set_cons_zero, List.set_cons_succ]
                            refine wpAnyH_take (i := 22) (v := ?vh19) rfl (by kernel_rfl) (by kernel_rfl) (by kernel_rfl) (fun _ _ _ h => nomatch h.1) (Or.inl ⟨by kernel_rfl, ?yh19⟩) hHeld4 ?rh19
                            case yh19 => (intro w' hS; (try dsimp only at hS); obtain ⟨s0, s1, s2, s3⟩ := hS; (try go_simp); (try with_reducible rfl))
                            try simp only [Act.put, List.getElem_toArray, List.getElem_cons_zero, List.getElem_cons_succ, List.setIfInBounds_toArray, List.set_cons_zero, List.set_cons_succ]
                            refine wpAnyH_take (i := 23) (v := undef) rfl (by kernel_rfl) (by kernel_rfl) (by kernel_rfl) (fun _ _ _ h => nomatch h.1) (Or.inr ⟨by kernel_rfl, rfl⟩) hHeld4 ?_
                            try simp only [Act.put, List.getElem_toArray, List.getElem_cons_zero, List.getElem_cons_succ, List.setIfInBounds_toArray, List.set_cons_zero, List.set_cons_succ]
                            refine wpAnyH_take (i := 24) (v := undef) rfl (by kernel_rfl) (by kernel_rfl) (by kernel_rfl) (fun _ _ _ h => nomatch h.1) (Or.inr ⟨by kernel_rfl, rfl⟩) hHeld4 ?_
                            try simp only [Act.put, List.getElem_toArray, List.getElem_cons_zero, List.getElem_cons_succ, List.setIfInBounds_toArray, List.set_cons_zero, List.set_cons_succ]
                            refine wpAnyH_take (i := 25) (v := undef) rfl (by kernel_rfl) (by kernel_rfl) (by kernel_rfl) (fun _ _ _ h => nomatch h.1) (Or.inr ⟨by kernel_rfl, rfl⟩) hHeld4 ?_
                            try simp only [Act.put, List.getElem_toArray, List.getElem_cons_zero, List.getElem_cons_succ, List.setIfInBounds_toArray, List.set_cons_zero, List.set_cons_succ]
                            refine wpAnyH_take (i := 26) (v := undef) rfl (by kernel_rfl) (by kernel_rfl) (by kernel_rfl) (fun _ _ _ h => nomatch h.1) (Or.inr ⟨by kernel_rfl, rfl⟩) hHeld4 ?_
                            try simp only [Act.put, List.getElem_toArray, List.getElem_cons_zero, List.getElem_cons_succ, List.setIfInBounds_toArray, List.set_cons_zero, List.set_cons_succ]
                            refine wpAnyH_take (i := 27) (v := undef) rfl (by kernel_rfl) (by kernel_rfl) (by kernel_rfl) (fun _ _ _ h => nomatch h.1) (Or.inr ⟨by kernel_rfl, rfl⟩) hHeld4 ?_
                            try simp only [Act.put, List.getElem_toArray, List.getElem_cons_zero, List.getElem_cons_succ, List.setIfInBounds_toArray, List.set_cons_zero, List.set_cons_succ]
                            refine wpAnyH_take (i := 28) (v := undef) rfl (by kernel_rfl) (by kernel_rfl) (by kernel_rfl) (fun _ _ _ h => nomatch h.1) (Or.inr ⟨by kernel_rfl, rfl⟩) hHeld4 ?_
                            try simp only [Act.put, List.getElem_toArray, List.getElem_cons_zero, List.getElem_cons_succ, List.setIfInBounds_toArray, List.set_cons_zero, List.set_cons_succ]
                            refine wpAnyH_take (i := 29) (v := undef) rfl (by kernel_rfl) (by kernel_rfl) (by kernel_rfl) (fun _ _ _ h => nomatch h.1) (Or.inr ⟨by kernel_rfl, rfl⟩) hHeld4 ?_
                            try simp only [Act.put, List.getElem_toArray, List.getElem_cons_zero, List.getElem_cons_succ, List.setIfInBounds_toArray, List.set_cons_zero, List.set_cons_succ]
                            refine wpAnyH_take (i := 30) (v := undef) rfl (by kernel_rfl) (by kernel_rfl) (by kernel_rfl) (fun _ _ _ h => nomatch h.1) (Or.inr ⟨by kernel_rfl, rfl⟩) hHeld4 ?_
                            try simp only [Act.put, List.getElem_toArray, List.getElem_cons_zero, List.getElem_cons_succ, List.setIfInBounds_toArray, List.set_cons_zero, List.set_cons_succ]
                            refine wpAnyH_take (i := 31) (v := undef) rfl (by kernel_rfl) (by kernel_rfl) (by kernel_rfl) (fun _ _ _ h => nomatch h.1) (Or.inr ⟨by kernel_rfl, rfl⟩) hHeld4 ?_
                            try simp only [Act.put, List.getElem_toArray, List.getElem_cons_zero, List.getElem_cons_succ, List.setIfInBounds_toArray, List.set_cons_zero, List.set_cons_succ]
                            refine wpAnyH_take (i := 32) (v := undef) rfl (by kernel_rfl) (by kernel_rfl) (by kernel_rfl) (fun _ _ _ h => nomatch h.1) (Or.inr ⟨by kernel_rfl, rfl⟩) hHeld4 ?_
                            try simp only [Act.put, List.getElem_toArray, List.getElem_cons_zero, List.getElem_cons_succ, List.setIfInBounds_toArray, List.set_cons_zero, List.set_cons_succ]
                            refine wpAnyH_take (i := 33) (v := ?vh20) rfl (by kernel_rfl) (by kernel_rfl) (by kernel_rfl) (fun _ _ _ h => nomatch h.1) (Or.inl ⟨by kernel_rfl, ?yh20⟩) hHeld4 ?rh20
                            case yh20 => (intro w' hS; (try dsimp only at hS); obtain ⟨s0, s1, s2, s3⟩ := hS; (try go_simp); (try with_reducible rfl))
                            try simp only [Act.put, List.getElem_toArray, List.getElem_cons_zero, List.getElem_cons_succ, List.setIfInBounds_toArray, List.set_cons_zero, List.set_cons_succ]
                            refine wpAnyH_take (i := 34) (v := ?vh21) rfl (by kernel_rfl) (by kernel_rfl) (by kernel_rfl) (fun _ _ _ h => nomatch h.1) (Or.inl ⟨by kernel_rfl, ?yh21⟩) hHeld4 ?rh21
                            case yh21 => (intro w' hS; (try dsimp only at hS); obtain ⟨s0, s1, s2, s3⟩ := hS; (try go_simp); (try with_reducible rfl))
                            try simp only [Act.put, List.getElem_toArray, List.getElem_cons_zero, List.getElem_cons_succ, List.setIfInBounds_toArray, List.set_cons_zero, List.set_cons_succ]
                            refine wpAnyH_done (by kernel_rfl) ?_ _
                            have hv : bad2 k j a b = true := by rw [B2.out, en0, dn1, dn2, dn3, dn4]; rfl
                            refine ⟨rfl, hb4, ?_⟩
                            rw [hv]
                            exact cut_ex (by kernel_rfl)
                          · have dn4 : decide (cb < 4) = false := decide_eq_false n4
                            refine wpAnyH_take (i := 20) (v := ?vh22) rfl (by kernel_rfl) (by kernel_rfl) (by kernel_rfl) (fun _ _ _ h => nomatch h.1) (Or.inl ⟨by kernel_rfl, ?yh22⟩) hHeld4 ?rh22
                            case yh22 => (intro w' hS; (try dsimp only at hS); obtain ⟨s0, s1, s2, s3⟩ := hS; (try go_simp); (try with_reducible rfl))
                            try simp only [Act.put, List.getElem_toArray, List.getElem_cons_zero, List.getElem_cons_succ, List.setIfInBounds_toArray, List.set_cons_zero, List.set_cons_succ]
                            refine wpAnyH_take (i := 21) (v := ?vh23) rfl (by kernel_rfl) (by kernel_rfl) (by kernel_rfl) (fun _ _ _ h => nomatch h.1) (Or.inl ⟨by kernel_rfl, ?yh23⟩) hHeld4 ?rh23
                            case yh23 => (intro w' hS; (try dsimp only at hS); obtain ⟨s0, s1, s2, s3⟩ := hS; (try go_simp); (try with_reducible rfl))
                            try simp only [Act.put, List.getElem_toArray, List.getElem_cons_zero, List.getElem_cons_succ, List.setIfInBounds_toArray, List.set_cons_zero, List.set_cons_succ]
                            refine wpAnyH_take (i := 22) (v := ?vh24) rfl (by kernel_rfl) (by kernel_rfl) (by kernel_rfl) (fun _ _ _ h => nomatch h.1) (Or.inl ⟨by kernel_rfl, ?yh24⟩) hHeld4 ?rh24
                            case yh24 => (intro w' hS; (try dsimp only at hS); obtain ⟨s0, s1, s2, s3⟩ := hS; (try go_simp); (try with_reducible rfl))
                            try simp only [Act.put, List.getElem_toArray, List.getElem_cons_zero, List.getElem_cons_succ, List.setIfInBounds_toArray, List.set_cons_zero, List.set_cons_succ]
                            refine wpAnyH_take (i := 23) (v := ?vh25) rfl (by kernel_rfl) (by kernel_rfl) (by kernel_rfl) (fun _ _ _ h => nomatch h.1) (Or.inl ⟨by kernel_rfl, ?yh25⟩) hHeld4 ?rh25
                            case yh25 => (intro w' hS; (try dsimp only at hS); obtain ⟨s0, s1, s2, s3⟩ := hS; (try go_simp); (try with_reducible rfl))
                            try simp only [Act.put, List.getElem_toArray, List.getElem_cons_zero, List.getElem_cons_succ, List.setIfInBounds_toArray, List.set_cons_zero, List.set_cons_succ]
                            refine wpAnyH_ready (rs := [24]) (by kernel_rfl) (by simp) ?_
                            refine AllReadyH.cons rfl (fun K hK => ?_) AllReadyH.nil
                            go_simp
                            refine (MA.out _ hb4).mono ?_
                            rintro e x5 ⟨rfl, hc5⟩
                            have hb5 := hb4.trans (hc5.mono hb4.size)
                            clear hc5
                            go_wp2_with fail
                            refine hK.out _ _ (SS.out _ hb5) (fun hHeld5 => ?_)
                            clear hK K
                            try simp only [Act.put, List.getElem_toArray, List.getElem_cons_zero, List.getElem_cons_succ, List.setIfInBounds_toArray, List.set_cons_zero, List.set_cons_succ]
                            by_cases n5 : 0 < ma
                            · have dn5 : decide (0 < ma) = true := decide_eq_true n5
                              refine wpAnyH_take (i := 25) (v := ?vh26) rfl (by kernel_rfl) (by kernel_rfl) (by kernel_rfl) (fun _ _ _ h => nomatch h.1) (Or.inl ⟨by kernel_rfl, ?yh26⟩) hHeld5 ?rh26
                              case yh26 => (intro w' hS; (try dsimp only at hS); obtain ⟨s0, s1, s2, s3⟩ := hS; (try go_simp); (try with_reducible rfl))
                              try simp only [Act.put, List.getElem_toArray, List.getElem_cons_zero, List.getElem_cons_succ, List.setIfInBounds_toArray, List.set_cons_zero, List.set_cons_succ]
                              refine wpAnyH_take (i := 26) (v := ?vh27) rfl (by kernel_rfl) (by kernel_rfl) (by kernel_rfl) (fun _ _ _ h => nomatch h.1) (Or.inl ⟨by kernel_rfl, ?yh27⟩) hHeld5 ?rh27
                              case yh27 => (intro w' hS; (try dsimp only at hS); obtain ⟨s0, s1, s2, s3⟩ := hS; (try go_simp); (try with_reducible rfl))
                              try simp only [Act.put, List.getElem_toArray, List.getElem_cons_zero, List.getElem_cons_succ, List.setIfInBounds_toArray, List.set_cons_zero, List.set_cons_succ]
                              refine wpAnyH_take (i := 27) (v := ?vh28) rfl (by kernel_rfl) (by kernel_rfl) (by kernel_rfl) (fun _ _ _ h => nomatch h.1) (Or.inl ⟨by kernel_rfl, ?yh28⟩) hHeld5 ?rh28
                              case yh28 => (intro w' hS; (try dsimp only at hS); obtain ⟨s0, s1, s2, s3⟩ := hS; (try go_simp); (try with_reducible rfl))
                              try simp only [Act.put, List.getElem_toArray, List.getElem_cons_zero, List.getElem_cons_succ, List.setIfInBounds_toArray, List.set_cons_zero, List.set_cons_succ]
                              refine wpAnyH_take (i := 29) (v := ?vh29) rfl (by kernel_rfl) (by kernel_rfl) (by kernel_rfl) (fun _ _ _ h => nomatch h.1) (Or.inl ⟨by kernel_rfl, ?yh29⟩) hHeld5 ?rh29
                              case yh29 => (intro w' hS; (try dsimp only at hS); obtain ⟨s0, s1, s2, s3⟩ := hS; (try go_simp); (try with_reducible rfl))
                              try simp only [Act.put, List.getElem_toArray, List.getElem_cons_zero, List.getElem_cons_succ, List.setIfInBounds_toArray, List.set_cons_zero, List.set_cons_succ]
                              refine wpAnyH_ready (rs := [28]) (by kernel_rfl) (by simp) ?_
                              refine AllReadyH.cons rfl (fun K hK => ?_) AllReadyH.nil
                              go_simp
                              refine (MB.out _ hb5).mono ?_
                              rintro e x6 ⟨rfl, hc6⟩
                              have hb6 := hb5.trans (hc6.mono hb5.size)
                              clear hc6
                              go_wp2_with fail
                              refine hK.out _ _ (SS.out _ hb6) (fun hHeld6 => ?_)
                              clear hK K
                              try simp only [Act.put, List.getElem_toArray, List.getElem_cons_zero, List.getElem_cons_succ, List.setIfInBounds_toArray, List.set_cons_zero, List.set_cons_succ]
                              refine wpAnyH_ready (rs := [30]) (by kernel_rfl) (by simp) ?_
                              refine AllReadyH.cons rfl (fun K hK => ?_) AllReadyH.nil
                              go_simp
                              refine (MA.out _ hb6).mono ?_
                              rintro e x7 ⟨rfl, hc7⟩
                              have hb7 := hb6.trans (hc7.mono hb6.size)
                              clear hc7
                              go_wp2_with fail
                              refine hK.out _ _ (SS.out _ hb7) (fun hHeld7 => ?_)
                              clear hK K
                              try simp only [Act.put, List.getElem_toArray, List.getElem_cons_zero, List.getElem_cons_succ, List.setIfInBounds_toArray, List.set_cons_zero, List.set_cons_succ]
                              by_cases n6 : ma < mb
                              · have dn6 : decide (ma < mb) = true := decide_eq_true n6
                                refine wpAnyH_take (i := 31) (v := ?vh30) rfl (by kernel_rfl) (by kernel_rfl) (by kernel_rfl) (fun _ _ _ h => nomatch h.1) (Or.inl ⟨by kernel_rfl, ?yh30⟩) hHeld7 ?rh30
                                case yh30 => (intro w' hS; (try dsimp only at hS); obtain ⟨s0, s1, s2, s3⟩ := hS; (try go_simp); (try with_reducible rfl))
                                try simp only [Act.put, List.getElem_toArray, List.getElem_cons_zero, List.getElem_cons_succ, List.setIfInBounds_toArray, List.set_cons_zero, List.set_cons_succ]
                                refine wpAnyH_take (i := 32) (v := ?vh31) rfl (by kernel_rfl) (by kernel_rfl) (by kernel_rfl) (fun _ _ _ h => nomatch h.1) (Or.inl ⟨by kernel_rfl, ?yh31⟩) hHeld7 ?rh31
                                case yh31 => (intro w' hS; (try dsimp only at hS); obtain ⟨s0, s1, s2, s3⟩ := hS; (try go_simp); (try with_reducible rfl))
                                try simp only [Act.put, List.getElem_toArray, List.getElem_cons_zero, List.getElem_cons_succ, List.setIfInBounds_toArray, List.set_cons_zero, List.set_cons_succ]
                                refine wpAnyH_take (i := 33) (v := ?vh32) rfl (by kernel_rfl) (by kernel_rfl) (by kernel_rfl) (fun _ _ _ h => nomatch h.1) (Or.inl ⟨by kernel_rfl, ?yh32⟩) hHeld7 ?rh32
                                case yh32 => (intro w' hS; (try dsimp only at hS); obtain ⟨s0, s1, s2, s3⟩ := hS; (try go_simp); (try with_reducible rfl))
                                try simp only [Act.put, List.getElem_toArray, List.getElem_cons_zero, List.getElem_cons_succ, List.setIfInBounds_toArray, List.set_cons_zero, List.set_cons_succ]
                                refine wpAnyH_take (i := 34) (v := ?vh33) rfl (by kernel_rfl) (by kernel_rfl) (by kernel_rfl) (fun _ _ _ h => nomatch h.1) (Or.inl ⟨by kernel_rfl, ?yh33⟩) hHeld7 ?rh33
                                case yh33 => (intro w' hS; (try dsimp only at hS); obtain ⟨s0, s1, s2, s3⟩ := hS; (try go_simp); (try with_reducible rfl))
                                try simp only [Act.put, List.getElem_toArray, List.getElem_cons_zero, List.getElem_cons_succ, List.setIfInBounds_toArray, List.set_cons_zero, List.set_cons_succ]
                                refine wpAnyH_done (by kernel_rfl) ?_ _
                                have hv : bad2 k j a b = true := by rw [B2.out, en0, dn1, dn2, dn3, dn4, dn5, dn6]; rfl
                                refine ⟨rfl, hb7, ?_⟩
                                rw [hv]
                                exact cut_ex (by kernel_rfl)
                              · have dn6 : decide (ma < mb) = false := decide_eq_false n6
                                refine wpAnyH_take (i := 31) (v := ?vh34) rfl (by kernel_rfl) (by kernel_rfl) (by kernel_rfl) (fun _ _ _ h => nomatch h.1) (Or.inl ⟨by kernel_rfl, ?yh34⟩) hHeld7 ?rh34
                                case yh34 => (intro w' hS; (try dsimp only at hS); obtain ⟨s0, s1, s2, s3⟩ := hS; (try go_simp); (try with_reducible rfl))
                                try simp only [Act.put, List.getElem_toArray, List.getElem_cons_zero, List.getElem_cons_succ, List.setIfInBounds_toArray, List.set_cons_zero, List.set_cons_succ]
                                refine wpAnyH_take (i := 32) (v := ?vh35) rfl (by kernel_rfl) (by kernel_rfl) (by kernel_rfl) (fun _ _ _ h => nomatch h.1) (Or.inl ⟨by kernel_rfl, ?yh35⟩) hHeld7 ?rh35
                                case yh35 => (intro w' hS; (try dsimp only at hS); obtain ⟨s0, s1, s2, s3⟩ := hS; (try go_simp); (try with_reducible rfl))
                                try simp only [Act.put, List.getElem_toArray, List.getElem_cons_zero, List.getElem_cons_succ, List.setIfInBounds_toArray, List.set_cons_zero, List.set_cons_succ]
                                refine wpAnyH_take (i := 33) (v := ?vh36) rfl (by kernel_rfl) (by kernel_rfl) (by kernel_rfl) (fun _ _ _ h => nomatch h.1) (Or.inl ⟨by kernel_rfl, ?yh36⟩) hHeld7 ?rh36
                                case yh36 => (intro w' hS; (try dsimp only at hS); obtain ⟨s0, s1, s2, s3⟩ := hS; (try go_simp); (try with_reducible rfl))
                                try simp only [Act.put, List.getElem_toArray, List.getElem_cons_zero, List.getElem_cons_succ, List.setIfInBounds_toArray, List.set_cons_zero, List.set_cons_succ]
                                refine wpAnyH_take (i := 34) (v := ?vh37) rfl (by kernel_rfl) (by kernel_rfl) (by kernel_rfl) (fun _ _ _ h => nomatch h.1) (Or.inl ⟨by kernel_rfl, ?yh37⟩) hHeld7 ?rh37
                                case yh37 => (intro w' hS; (try dsimp only at hS); obtain ⟨s0, s1, s2, s3⟩ := hS; (try go_simp); (try with_reducible rfl))
                                try simp only [Act.put, List.getElem_toArray, List.getElem_cons_zero, List.getElem_cons_succ, List.setIfInBounds_toArray, List.set_cons_zero, List.set_cons_succ]
                                refine wpAnyH_done (by kernel_rfl) ?_ _
                                have hv : bad2 k j a b = false := by rw [B2.out, en0, dn1, dn2, dn3, dn4, dn5, dn6]; rfl
                                refine ⟨rfl, hb7, ?_⟩
                                rw [hv]
                                exact cut_ex (by kernel_rfl)
                            · have dn5 : decide (0 < ma) = false := decide_eq_false n5
                              refine wpAnyH_take (i := 25) (v := ?vh38) rfl (by kernel_rfl) (by kernel_rfl) (by kernel_rfl) (fun _ _ _ h => nomatch h.1) (Or.inl ⟨by kernel_rfl, ?yh38⟩) hHeld5 ?rh38
                              case yh38 => (intro w' hS; (try dsimp only at hS); obtain ⟨s0, s1, s2, s3⟩ := hS; (try go_simp); (try with_reducible rfl))
                              try simp only [Act.put, List.getElem_toArray, List.getElem_cons_zero, List.getElem_cons_succ, List.setIfInBounds_toArray, List.set_cons_zero, List.set_cons_succ]
                              refine wpAnyH_take (i := 26) (v := ?vh39) rfl (by kernel_rfl) (by kernel_rfl) (by kernel_rfl) (fun _ _ _ h => nomatch h.1) (Or.inl ⟨by kernel_rfl, ?yh39⟩) hHeld5 ?rh39
                              case yh39 => (intro w' hS; (try dsimp only at hS); obtain ⟨s0, s1, s2, s3⟩ := hS; (try go_simp); (try with_reducible rfl))
                              try simp only [Act.put, List.getElem_toArray, List.getElem_cons_zero, List.getElem_cons_succ, List.setIfInBounds_toArray, List.set_cons_zero, List.set_cons_succ]
                              refine wpAnyH_take (i := 27) (v := undef) rfl (by kernel_rfl) (by kernel_rfl) (by kernel_rfl) (fun _ _ _ h => nomatch h.1) (Or.inr ⟨by kernel_rfl, rfl⟩) hHeld5 ?_
                              try simp only [Act.put, List.getElem_toArray, List.getElem_cons_zero, List.getElem_cons_succ, List.setIfInBounds_toArray, List.set_cons_zero, List.set_cons_succ]
                              refine wpAnyH_take (i := 28) (v := undef) rfl (by kernel_rfl) (by kernel_rfl) (by kernel_rfl) (fun _ _ _ h => nomatch h.1) (Or.inr ⟨by kernel_rfl, rfl⟩) hHeld5 ?_
                              try simp only [Act.put, List.getElem_toArray, List.getElem_cons_zero, List.getElem_cons_succ, List.setIfInBounds_toArray, List.set_cons_zero, List.set_cons_succ]
                              refine wpAnyH_take (i := 29) (v := undef) rfl (by kernel_rfl) (by kernel_rfl) (by kernel_rfl) (fun _ _ _ h => nomatch h.1) (Or.inr ⟨by kernel_rfl, rfl⟩) hHeld5 ?_
                              try simp only [Act.put, List.getElem_toArray, List.getElem_cons_zero, List.getElem_cons_succ, List.setIfInBounds_toArray, List.set_cons_zero, List.set_cons_succ]
                              refine wpAnyH_take (i := 30) (v := undef) rfl (by kernel_rfl) (by kernel_rfl) (by kernel_rfl) (fun _ _ _ h => nomatch h.1) (Or.inr ⟨by kernel_rfl, rfl⟩) hHeld5 ?_
                              try simp only [Act.put, List.getElem_toArray, List.getElem_cons_zero, List.getElem_cons_succ, List.setIfInBounds_toArray, List.set_cons_zero, List.set_cons_succ]
                              refine wpAnyH_take (i := 31) (v := undef) rfl (by kernel_rfl) (by kernel_rfl) (by kernel_rfl) (fun _ _ _ h => nomatch h.1) (Or.inr ⟨by kernel_rfl, rfl⟩) hHeld5 ?_
                              try simp only [Act.put, List.getElem_toArray, List.getElem_cons_zero, List.getElem_cons_succ, List.setIfInBounds_toArray, List.set_cons_zero, List.set_cons_succ]
                              refine wpAnyH_take (i := 32) (v := ?vh40) rfl (by kernel_rfl) (by kernel_rfl) (by kernel_rfl) (fun _ _ _ h => nomatch h.1) (Or.inl ⟨by kernel_rfl, ?yh40⟩) hHeld5 ?rh40
                              case yh40 => (intro w' hS; (try dsimp only at hS); obtain ⟨s0, s1, s2, s3⟩ := hS; (try go_simp); (try with_reducible rfl))
                              try simp only [Act.put, List.getElem_toArray, List.getElem_cons_zero, List.getElem_cons_succ, List.setIfInBounds_toArray, List.set_cons_zero, List.set_cons_succ]
                              refine wpAnyH_take (i := 33) (v := ?vh41) rfl (by kernel_rfl) (by kernel_rfl) (by kernel_rfl) (fun _ _ _ h => nomatch h.1) (Or.inl ⟨by kernel_rfl, ?yh41⟩) hHeld5 ?rh41
                              case yh41 => (intro w' hS; (try dsimp only at hS); obtain ⟨s0, s1, s2, s3⟩ := hS; (try go_simp); (try with_reducible rfl))
                              try simp only [Act.put, List.getElem_toArray, List.getElem_cons_zero, List.getElem_cons_succ, List.setIfInBounds_toArray, List.set_cons_zero, List.set_cons_succ]
                              refine wpAnyH_take (i := 34) (v := ?vh42) rfl (by kernel_rfl) (by kernel_rfl) (by kernel_rfl) (fun _ _ _ h => nomatch h.1) (Or.inl ⟨by kernel_rfl, ?yh42⟩) hHeld5 ?rh42
                              case yh42 => (intro w' hS; (try dsimp only at hS); obtain ⟨s0, s1, s2, s3⟩ := hS; (try go_simp); (try with_reducible rfl))
                              try simp only [Act.put, List.getElem_toArray, List.getElem_cons_zero, List.getElem_cons_succ, List.setIfInBounds_toArray, List.set_cons_zero, List.set_cons_succ]
                              refine wpAnyH_done (by kernel_rfl) ?_ _
                              have hv : bad2 k j a b = false := by rw [B2.out, en0, dn1, dn2, dn3, dn4, dn5]; rfl
                              refine ⟨rfl, hb5, ?_⟩
                              rw [hv]
                              exact cut_ex (by kernel_rfl)
                        · have dn3 : decide (0 < cb) = false := decide_eq_false n3
                          refine wpAnyH_take (i := 16) (v := ?vh43) rfl (by kernel_rfl) (by kernel_rfl) (by kernel_rfl) (fun _ _ _ h => nomatch h.1) (Or.inl ⟨by kernel_rfl, ?yh43⟩) hHeld3 ?rh43
                          case yh43 => (intro w' hS; (try dsimp only at hS); obtain ⟨s0, s1, s2, s3⟩ := hS; (try go_simp); (try with_reducible rfl))
                          try simp only [Act.put, List.getElem_toArray, List.getElem_cons_zero, List.getElem_cons_succ, List.setIfInBounds_toArray, List.set_cons_zero, List.set_cons_succ]
                          refine wpAnyH_take (i := 17) (v := ?vh44) rfl (by kernel_rfl) (by kernel_rfl) (by kernel_rfl) (fun _ _ _ h => nomatch h.1) (Or.inl ⟨by kernel_rfl, ?yh44⟩) hHeld3 ?rh44
                          case yh44 => (intro w' hS; (try dsimp only at hS); obtain ⟨s0, s1, s2, s3⟩ := hS; (try go_simp); (try with_reducible rfl))
                          try simp only [Act.put, List.getElem_toArray, List.getElem_cons_zero, List.getElem_cons_succ, List.setIfInBounds_toArray, List.set_cons_zero, List.set_cons_succ]
                          refine wpAnyH_take (i := 18) (v := undef) rfl (by kernel_rfl) (by kernel_rfl) (by kernel_rfl) (fun _ _ _ h => nomatch h.1) (Or.inr ⟨by kernel_rfl, rfl⟩) hHeld3 ?_
                          try simp only [Act.put, List.getElem_toArray, List.getElem_cons_zero, List.getElem_cons_succ, List.setIfInBounds_toArray, List.set_cons_zero, List.set_cons_succ]
                          refine wpAnyH_take (i := 19) (v := undef) rfl (by kernel_rfl) (by kernel_rfl) (by kernel_rfl) (fun _ _ _ h => nomatch h.1) (Or.inr ⟨by kernel_rfl, rfl⟩) hHeld3 ?_
                          try simp only [Act.put, List.getElem_toArray, List.getElem_cons_zero, List.getElem_cons_succ, List.setIfInBounds_toArray, List.set_cons_zero, List.set_cons_succ]
                          refine wpAnyH_take (i := 20) (v := undef) rfl (by kernel_rfl) (by kernel_rfl) (by kernel_rfl) (fun _ _ _ h => nomatch h.1) (Or.inr ⟨by kernel_rfl, rfl⟩) hHeld3 ?_
                          try simp only [Act.put, List.getElem_toArray, List.getElem_cons_zero, List.getElem_cons_succ, List.setIfInBounds_toArray, List.set_cons_zero, List.set_cons_succ]
                          refine wpAnyH_take (i := 21) (v := ?vh45) rfl (by kernel_rfl) (by kernel_rfl) (by kernel_rfl) (fun _ _ _ h => nomatch h.1) (Or.inl ⟨by kernel_rfl, ?yh45⟩) hHeld3 ?rh45
                          case yh45 => (intro w' hS; (try dsimp only at hS); obtain ⟨s0, s1, s2, s3⟩ := hS; (try go_simp); (try with_reducible rfl))
                          try simp only [Act.put, List.getElem_toArray, List.getElem_cons_zero, List.getElem_cons_succ, List.setIfInBounds_toArray, List.set_cons_zero, List.set_cons_succ]
                          refine wpAnyH_take (i := 22) (v := ?vh46) rfl (by kernel_rfl) (by kernel_rfl) (by kernel_rfl) (fun _ _ _ h => nomatch h.1) (Or.inl ⟨by kernel_rfl, ?yh46⟩) hHeld3 ?rh46
                          case yh46 => (intro w' hS; (try dsimp only at hS); obtain ⟨s0, s1, s2, s3⟩ := hS; (try go_simp); (try with_reducible rfl))
                          try simp only [Act.put, List.getElem_toArray, List.getElem_cons_zero, List.getElem_cons_succ, List.setIfInBounds_toArray, List.set_cons_zero, List.set_cons_succ]
                          refine wpAnyH_take (i := 23) (v := ?vh47) rfl (by kernel_rfl) (by kernel_rfl) (by kernel_rfl) (fun _ _ _ h => nomatch h.1) (Or.inl ⟨by kernel_rfl, ?yh47⟩) hHeld3 ?rh47
                          case yh47 => (intro w' hS; (try dsimp only at hS); obtain ⟨s0, s1, s2, s3⟩ := hS; (try go_simp); (try with_reducible rfl))
                          try simp only [Act.put, List.getElem_toArray, List.getElem_cons_zero, List.getElem_cons_succ, List.setIfInBounds_toArray, List.set_cons_zero, List.set_cons_succ]
                          refine wpAnyH_ready (rs := [24]) (by kernel_rfl) (by simp) ?_
                          refine AllReadyH.cons rfl (fun K hK => ?_) AllReadyH.nil
                          go_simp
                          refine (MA.out _ hb3).mono ?_
                          rintro e x4 ⟨rfl, hc4⟩
                          have hb4 := hb3.trans (hc4.mono hb3.size)
                          clear hc4
                          go_wp2_with fail
                          refine hK.out _ _ (SS.out _ hb4) (fun hHeld4 => ?_)
                          clear hK K
                          try simp only [Act.put, List.getElem_toArray, List.getElem_cons_zero, List.getElem_cons_succ, List.setIfInBounds_toArray, List.set_cons_zero, List.set_cons_succ]
                          by_cases n5 : 0 < ma
                          · have dn5 : decide (0 < ma) = true := decide_eq_true n5
                            refine wpAnyH_take (i := 25) (v := ?vh48) rfl (by kernel_rfl) (by kernel_rfl) (by kernel_rfl) (fun _ _ _ h => nomatch h.1) (Or.inl ⟨by kernel_rfl, ?yh48⟩) hHeld4 ?rh48
                            case yh48 => (intro w' hS; (try dsimp only at hS); obtain ⟨s0, s1, s2, s3⟩ := hS; (try go_simp); (try with_reducible rfl))
                            try simp only [Act.put, List.getElem_toArray, List.getElem_cons_zero, List.getElem_cons_succ, List.setIfInBounds_toArray, List.set_cons_zero, List.set_cons_succ]
                            refine wpAnyH_take (i := 26) (v := ?vh49) rfl (by kernel_rfl) (by kernel_rfl) (by kernel_rfl) (fun _ _ _ h => nomatch h.1) (Or.inl ⟨by kernel_rfl, ?yh49⟩) hHeld4 ?rh49
                            case yh49 => (intro w' hS; (try dsimp only at hS); obtain ⟨s0, s1, s2, s3⟩ := hS; (try go_simp); (try with_reducible rfl))
                            try simp only [Act.put, List.getElem_toArray, List.getElem_cons_zero, List.getElem_cons_succ, List.setIfInBounds_toArray, List.set_cons_zero, List.set_cons_succ]
                            refine wpAnyH_take (i := 27) (v := ?vh50) rfl (by kernel_rfl) (by kernel_rfl) (by kernel_rfl) (fun _ _ _ h => nomatch h.1) (Or.inl ⟨by kernel_rfl, ?yh50⟩) hHeld4 ?rh50
                            case yh50 => (intro w' hS; (try dsimp only at hS); obtain ⟨s0, s1, s2, s3⟩ := hS; (try go_simp); (try with_reducible rfl))
                            try simp only [Act.put, List.getElem_toArray, List.getElem_cons_zero, List.getElem_cons_succ, List.setIfInBounds_toArray, List.set_cons_zero, List.set_cons_succ]
                            refine wpAnyH_take (i := 29) (v := ?vh51) rfl (by kernel_rfl) (by kernel_rfl) (by kernel_rfl) (fun _ _ _ h => nomatch h.1) (Or.inl ⟨by kernel_rfl, ?yh51⟩) hHeld4 ?rh51
                            case yh51 => (intro w' hS; (try dsimp only at hS); obtain ⟨s0, s1, s2, s3⟩ := hS; (try go_simp); (try with_reducible rfl))
                            try simp only [Act.put, List.getElem_toArray, List.getElem_cons_zero, List.getElem_cons_succ, List.setIfInBounds_toArray, List.set_cons_zero, List.set_cons_succ]
                            refine wpAnyH_ready (rs := [28]) (by kernel_rfl) (by simp) ?_
                            refine AllReadyH.cons rfl (fun K hK => ?_) AllReadyH.nil
                            go_simp
                            refine (MB.out _ hb4).mono ?_
                            rintro e x5 ⟨rfl, hc5⟩
                            have hb5 := hb4.trans (hc5.mono hb4.size)
                            clear hc5
                            go_wp2_with fail
                            refine hK.out _ _ (SS.out _ hb5) (fun hHeld5 => ?_)
                            clear hK K
                            try simp only [Act.put, List.getElem_toArray, List.getElem_cons_zero, List.getElem_cons_succ, List.setIfInBounds_toArray, List.set_cons_zero, List.set_cons_succ]
                            refine wpAnyH_ready (rs := [30]) (by kernel_rfl) (by simp) ?_
                            refine AllReadyH.cons rfl (fun K hK => ?_) AllReadyH.nil
                            go_simp
                            refine (MA.out _ hb5).mono ?_
                            rintro e x6 ⟨rfl, hc6⟩
                            have hb6 := hb5.trans (hc6.mono hb5.size)
                            clear hc6
                            go_wp2_with fail
                            refine hK.out _ _ (SS.out _ hb6) (fun hHeld6 => ?_)
                            clear hK K
                            try simp only [Act.put, List.getElem_toArray, List.getElem_cons_zero, List.getElem_cons_succ, List.setIfInBounds_toArray, List.set_cons_zero, List.set_cons_succ]
                            by_cases n6 : ma < mb
                            · have dn6 : decide (ma < mb) = true := decide_eq_true n6
                              refine wpAnyH_take (i := 31) (v := ?vh52) rfl (by kernel_rfl) (by kernel_rfl) (by kernel_rfl) (fun _ _ _ h => nomatch h.1) (Or.inl ⟨by kernel_rfl, ?yh52⟩) hHeld6 ?rh52
                              case yh52 => (intro w' hS; (try dsimp only at hS); obtain ⟨s0, s1, s2, s3⟩ := hS; (try go_simp); (try with_reducible rfl))
                              try simp only [Act.put, List.getElem_toArray, List.getElem_cons_zero, List.getElem_cons_succ, List.setIfInBounds_toArray, List.set_cons_zero, List.set_cons_succ]
                              refine wpAnyH_take (i := 32) (v := ?vh53) rfl (by kernel_rfl) (by kernel_rfl) (by kernel_rfl) (fun _ _ _ h => nomatch h.1) (Or.inl ⟨by kernel_rfl, ?yh53⟩) hHeld6 ?rh53
                              case yh53 => (intro w' hS; (try dsimp only at hS); obtain ⟨s0, s1, s2, s3⟩ := hS; (try go_simp); (try with_reducible rfl))
                              try simp only [Act.put, List.getElem_toArray, List.getElem_cons_zero, List.getElem_cons_succ, List.setIfInBounds_toArray, List.set_cons_zero, List.set_cons_succ]
                              refine wpAnyH_take (i := 33) (v := ?vh54) rfl (by kernel_rfl) (by kernel_rfl) (by kernel_rfl) (fun _ _ _ h => nomatch h.1) (Or.inl ⟨by kernel_rfl, ?yh54⟩) hHeld6 ?rh54
                              case yh54 => (intro w' hS; (try dsimp only at hS); obtain ⟨s0, s1, s2, s3⟩ := hS; (try go_simp); (try with_reducible rfl))
                              try simp only [Act.put, List.getElem_toArray, List.getElem_cons_zero, List.getElem_cons_succ, List.setIfInBounds_toArray, List.set_cons_zero, List.set_cons_succ]
                              refine wpAnyH_take (i := 34) (v := ?vh55) rfl (by kernel_rfl) (by kernel_rfl) (by kernel_rfl) (fun _ _ _ h => nomatch h.1) (Or.inl ⟨by kernel_rfl, ?yh55⟩) hHeld6 ?rh55
                              case yh55 => (intro w' hS; (try dsimp only at hS); obtain ⟨s0, s1, s2, s3⟩ := hS; (try go_simp); (try with_reducible rfl))
                              try simp only [Act.put, List.getElem_toArray, List.getElem_cons_zero, List.getElem_cons_succ, List.setIfInBounds_toArray, List.set_cons_zero, List.set_cons_succ]
                              refine wpAnyH_done (by kernel_rfl) ?_ _
                              have hv : bad2 k j a b = true := by rw [B2.out, en0, dn1, dn2, dn3, dn5, dn6]; rfl
                              refine ⟨rfl, hb6, ?_⟩
                              rw [hv]
                              exact cut_ex (by kernel_rfl)
                            · have dn6 : decide (ma < mb) = false := decide_eq_false n6
                              refine wpAnyH_take (i := 31) (v := ?vh56) rfl (by kernel_rfl) (by kernel_rfl) (by kernel_rfl) (fun _ _ _ h => nomatch h.1) (Or.inl ⟨by kernel_rfl, ?yh56⟩) hHeld6 ?rh56
                              case yh56 => (intro w' hS; (try dsimp only at hS); obtain ⟨s0, s1, s2, s3⟩ := hS; (try go_simp); (try with_reducible rfl))
                              try simp only [Act.put, List.getElem_toArray, List.getElem_cons_zero, List.getElem_cons_succ, List.setIfInBounds_toArray, List.set_cons_zero, List.set_cons_succ]
                              refine wpAnyH_take (i := 32) (v := ?vh57) rfl (by kernel_rfl) (by kernel_rfl) (by kernel_rfl) (fun _ _ _ h => nomatch h.1) (Or.inl ⟨by kernel_rfl, ?yh57⟩) hHeld6 ?rh57
                              case yh57 => (intro w' hS; (try dsimp only at hS); obtain ⟨s0, s1, s2, s3⟩ := hS; (try go_simp); (try with_reducible rfl))
                              try simp only [Act.put, List.getElem_toArray, List.getElem_cons_zero, List.getElem_cons_succ, List.setIfInBounds_toArray, List.set_cons_zero, List.set_cons_succ]
                              refine wpAnyH_take (i := 33) (v := ?vh58) rfl (by kernel_rfl) (by kernel_rfl) (by kernel_rfl) (fun _ _ _ h => nomatch h.1) (Or.inl ⟨by kernel_rfl, ?yh58⟩) hHeld6 ?rh58
                              case yh58 => (intro w' hS; (try dsimp only at hS); obtain ⟨s0, s1, s2, s3⟩ := hS; (try go_simp); (try with_reducible rfl))
                              try simp only [Act.put, List.getElem_toArray, List.getElem_cons_zero, List.getElem_cons_succ, List.setIfInBounds_toArray, List.set_cons_zero, List.set_cons_succ]
                              refine wpAnyH_take (i := 34) (v := ?vh59) rfl (by kernel_rfl) (by kernel_rfl) (by kernel_rfl) (fun _ _ _ h => nomatch h.1) (Or.inl ⟨by kernel_rfl, ?yh59⟩) hHeld6 ?rh59
                              case yh59 => (intro w' hS; (try dsimp only at hS); obtain ⟨s0, s1, s2, s3⟩ := hS; (try go_simp); (try with_reducible rfl))
                              try simp only [Act.put, List.getElem_toArray, List.getElem_cons_zero, List.getElem_cons_succ, List.setIfInBounds_toArray, List.set_cons_zero, List.set_cons_succ]
                              refine wpAnyH_done (by kernel_rfl) ?_ _
                              have hv : bad2 k j a b = false := by rw [B2.out, en0, dn1, dn2, dn3, dn5, dn6]; rfl
                              refine ⟨rfl, hb6, ?_⟩
                              rw [hv]
                              exact cut_ex (by kernel_rfl)
                          · have dn5 : decide (0 < ma) = false := decide_eq_false n5
                            refine wpAnyH_take (i := 25) (v := ?vh60) rfl (by kernel_rfl) (by kernel_rfl) (by kernel_rfl) (fun _ _ _ h => nomatch h.1) (Or.inl ⟨by kernel_rfl, ?yh60⟩) hHeld4 ?rh60
                            case yh60 => (intro w' hS; (try dsimp only at hS); obtain ⟨s0, s1, s2, s3⟩ := hS; (try go_simp); (try with_reducible rfl))
                            try simp only [Act.put, List.getElem_toArray, List.getElem_cons_zero, List.getElem_cons_succ, List.setIfInBounds_toArray, List.set_cons_zero, List.set_cons_succ]
                            refine wpAnyH_take (i := 26) (v := ?vh61) rfl (by kernel_rfl) (by kernel_rfl) (by kernel_rfl) (fun _ _ _ h => nomatch h.1) (Or.inl ⟨by kernel_rfl, ?yh61⟩) hHeld4 ?rh61
                            case yh61 => (intro w' hS; (try dsimp only at hS); obtain ⟨s0, s1, s2, s3⟩ := hS; (try go_simp); (try with_reducible rfl))
                            try simp only [Act.put, List.getElem_toArray, List.getElem_cons_zero, List.getElem_cons_succ, List.setIfInBounds_toArray, List.set_cons_zero, List.set_cons_succ]
                            refine wpAnyH_take (i := 27) (v := undef) rfl (by kernel_rfl) (by kernel_rfl) (by kernel_rfl) (fun _ _ _ h => nomatch h.1) (Or.inr ⟨by kernel_rfl, rfl⟩) hHeld4 ?_
                            try simp only [Act.put, List.getElem_toArray, List.getElem_cons_zero, List.getElem_cons_succ, List.setIfInBounds_toArray, List.set_cons_zero, List.set_cons_succ]
                            refine wpAnyH_take (i := 28) (v := undef) rfl (by kernel_rfl) (by kernel_rfl) (by kernel_rfl) (fun _ _ _ h => nomatch h.1) (Or.inr ⟨by kernel_rfl, rfl⟩) hHeld4 ?_
                            try simp only [Act.put, List.getElem_toArray, List.getElem_cons_zero, List.getElem_cons_succ, List.setIfInBounds_toArray, List.set_cons_zero, List.set_cons_succ]
                            refine wpAnyH_take (i := 29) (v := undef) rfl (by kernel_rfl) (by kernel_rfl) (by kernel_rfl) (fun _ _ _ h => nomatch h.1) (Or.inr ⟨by kernel_rfl, rfl⟩) hHeld4 ?_
                            try simp only [Act.put, List.getElem_toArray, List.getElem_cons_zero, List.getElem_cons_succ, List.setIfInBounds_toArray, List.set_cons_zero, List.set_cons_succ]
                            refine wpAnyH_take (i := 30) (v := undef) rfl (by kernel_rfl) (by kernel_rfl) (by kernel_rfl) (fun _ _ _ h => nomatch h.1) (Or.inr ⟨by kernel_rfl, rfl⟩) hHeld4 ?_
                            try simp only [Act.put, List.getElem_toArray, List.getElem_cons_zero, List.getElem_cons_succ, List.setIfInBounds_toArray, List.set_cons_zero, List.set_cons_succ]
                            refine wpAnyH_take (i := 31) (v := undef) rfl (by kernel_rfl) (by kernel_rfl) (by kernel_rfl) (fun _ _ _ h => nomatch h.1) (Or.inr ⟨by kernel_rfl, rfl⟩) hHeld4 ?_
                            try simp only [Act.put, List.getElem_toArray, List.getElem_cons_zero, List.getElem_cons_succ, List.setIfInBounds_toArray, List.set_cons_zero, List.set_cons_succ]
                            refine wpAnyH_take (i := 32) (v := ?vh62) rfl (by kernel_rfl) (by kernel_rfl) (by kernel_rfl) (fun _ _ _ h => nomatch h.1) (Or.inl ⟨by kernel_rfl, ?yh62⟩) hHeld4 ?rh62
                            case yh62 => (intro w' hS; (try dsimp only at hS); obtain ⟨s0, s1, s2, s3⟩ := hS; (try go_simp); (try with_reducible rfl))
                            try simp only [Act.put, List.getElem_toArray, List.getElem_cons_zero, List.getElem_cons_succ, List.setIfInBounds_toArray, List.set_cons_zero, List.set_cons_succ]
                            refine wpAnyH_take (i := 33) (v := ?vh63) rfl (by kernel_rfl) (by kernel_rfl) (by kernel_rfl) (fun _ _ _ h => nomatch h.1) (Or.inl ⟨by kernel_rfl, ?yh63⟩) hHeld4 ?rh63
                            case yh63 => (intro w' hS; (try dsimp only at hS); obtain ⟨s0, s1, s2, s3⟩ := hS; (try go_simp); (try with_reducible rfl))
                            try simp only [Act.put, List.getElem_toArray, List.getElem_cons_zero, List.getElem_cons_succ, List.setIfInBounds_toArray, List.set_cons_zero, List.set_cons_succ]
                            refine wpAnyH_take (i := 34) (v := ?vh64) rfl (by kernel_rfl) (by kernel_rfl) (by kernel_rfl) (fun _ _ _ h => nomatch h.1) (Or.inl ⟨by kernel_rfl, ?yh64⟩) hHeld4 ?rh64
                            case yh64 => (intro w' hS; (try dsimp only at hS); obtain ⟨s0, s1, s2, s3⟩ := hS; (try go_simp); (try with_reducible rfl))
                            try simp only [Act.put, List.getElem_toArray, List.getElem_cons_zero, List.getElem_cons_succ, List.setIfInBounds_toArray, List.set_cons_zero, List.set_cons_succ]
                            refine wpAnyH_done (by kernel_rfl) ?_ _
                            have hv : bad2 k j a b = false := by rw [B2.out, en0, dn1, dn2, dn3, dn5]; rfl
                            refine ⟨rfl, hb4, ?_⟩
                            rw [hv]
                            exact cut_ex (by kernel_rfl)
                      · have dn2 : decide (ca < 4) = false := decide_eq_false n2
                        refine wpAnyH_take (i := 11) (v := ?vh65) rfl (by kernel_rfl) (by kernel_rfl) (by kernel_rfl) (fun _ _ _ h => nomatch h.1) (Or.inl ⟨by kernel_rfl, ?yh65⟩) hHeld2 ?rh65
                        case yh65 => (intro w' hS; (try dsimp only at hS); obtain ⟨s0, s1, s2, s3⟩ := hS; (try go_simp); (try with_reducible rfl))
                        try simp only [Act.put, List.getElem_toArray, List.getElem_cons_zero, List.getElem_cons_succ, List.setIfInBounds_toArray, List.set_cons_zero, List.set_cons_succ]
                        refine wpAnyH_take (i := 12) (v := ?vh66) rfl (by kernel_rfl) (by kernel_rfl) (by kernel_rfl) (fun _ _ _ h => nomatch h.1) (Or.inl ⟨by kernel_rfl, ?yh66⟩) hHeld2 ?rh66
                        case yh66 => (intro w' hS; (try dsimp only at hS); obtain ⟨s0, s1, s2, s3⟩ := hS; (try go_simp); (try with_reducible rfl))
                        try simp only [Act.put, List.getElem_toArray, List.getElem_cons_zero, List.getElem_cons_succ, List.setIfInBounds_toArray, List.set_cons_zero, List.set_cons_succ]
                        refine wpAnyH_take (i := 13) (v := ?vh67) rfl (by kernel_rfl) (by kernel_rfl) (by kernel_rfl) (fun _ _ _ h => nomatch h.1) (Or.inl ⟨by kernel_rfl, ?yh67⟩) hHeld2 ?rh67
                        case yh67 => (intro w' hS; (try dsimp only at hS); obtain ⟨s0, s1, s2, s3⟩ := hS; (try go_simp); (try with_reducible rfl))
                        try simp only [Act.put, List.getElem_toArray, List.getElem_cons_zero, List.getElem_cons_succ, List.setIfInBounds_toArray, List.set_cons_zero, List.set_cons_succ]
                        refine wpAnyH_take (i := 14) (v := undef) rfl (by kernel_rfl) (by kernel_rfl) (by kernel_rfl) (fun _ _ _ h => nomatch h.1) (Or.inr ⟨by kernel_rfl, rfl⟩) hHeld2 ?_
                        try simp only [Act.put, List.getElem_toArray, List.getElem_cons_zero, List.getElem_cons_succ, List.setIfInBounds_toArray, List.set_cons_zero, List.set_cons_succ]
                        refine wpAnyH_take (i := 15) (v := undef) rfl (by kernel_rfl) (by kernel_rfl) (by kernel_rfl) (fun _ _ _ h => nomatch h.1) (Or.inr ⟨by kernel_rfl, rfl⟩) hHeld2 ?_
                        try simp only [Act.put, List.getElem_toArray, List.getElem_cons_zero, List.getElem_cons_succ, List.setIfInBounds_toArray, List.set_cons_zero, List.set_cons_succ]
                        refine wpAnyH_take (i := 16) (v := undef) rfl (by kernel_rfl) (by kernel_rfl) (by kernel_rfl) (fun _ _ _ h => nomatch h.1) (Or.inr ⟨by kernel_rfl, rfl⟩) hHeld2 ?_
                        try simp only [Act.put, List.getElem_toArray, List.getElem_cons_zero, List.getElem_cons_succ, List.setIfInBounds_toArray, List.set_cons_zero, List.set_cons_succ]
                        refine wpAnyH_take (i := 17) (v := undef) rfl (by kernel_rfl) (by kernel_rfl) (by kernel_rfl) (fun _ _ _ h => nomatch h.1) (Or.inr ⟨by kernel_rfl, rfl⟩) hHeld2 ?_
                        try simp only [Act.put, List.getElem_toArray, List.getElem_cons_zero, List.getElem_cons_succ, List.setIfInBounds_toArray, List.set_cons_zero, List.set_cons_succ]
                        refine wpAnyH_take (i := 18) (v := undef) rfl (by kernel_rfl) (by kernel_rfl) (by kernel_rfl) (fun _ _ _ h => nomatch h.1) (Or.inr ⟨by kernel_rfl, rfl⟩) hHeld2 ?_
                        try simp only [Act.put, List.getElem_toArray, List.getElem_cons_zero, List.getElem_cons_succ, List.setIfInBounds_toArray, List.set_cons_zero, List.set_cons_succ]
                        refine wpAnyH_take (i := 19) (v := undef) rfl (by kernel_rfl) (by kernel_rfl) (by kernel_rfl) (fun _ _ _ h => nomatch h.1) (Or.inr ⟨by kernel_rfl, rfl⟩) hHeld2 ?_
                        try simp only [Act.put, List.getElem_toArray, List.getElem_cons_zero, List.getElem_cons_succ, List.setIfInBounds_toArray, List.set_cons_zero, List.set_cons_succ]
                        refine wpAnyH_take (i := 20) (v := undef) rfl (by kernel_rfl) (by kernel_rfl) (by kernel_rfl) (fun _ _ _ h => nomatch h.1) (Or.inr ⟨by kernel_rfl, rfl⟩) hHeld2 ?_
                        try simp only [Act.put, List.getElem_toArray, List.getElem_cons_zero, List.getElem_cons_succ, List.setIfInBounds_toArray, List.set_cons_zero, List.set_cons_succ]
                        refine wpAnyH_take (i := 21) (v := undef) rfl (by kernel_rfl) (by kernel_rfl) (by kernel_rfl) (fun _ _ _ h => nomatch h.1) (Or.inr ⟨by kernel_rfl, rfl⟩) hHeld2 ?_
                        try simp only [Act.put, List.getElem_toArray, List.getElem_cons_zero, List.getElem_cons_succ, List.setIfInBounds_toArray, List.set_cons_zero, List.set_cons_succ]
                        refine wpAnyH_take (i := 22) (v := undef) rfl (by kernel_rfl) (by kernel_rfl) (by kernel_rfl) (fun _ _ _ h => nomatch h.1) (Or.inr ⟨by kernel_rfl, rfl⟩) hHeld2 ?_
                        try simp only [Act.put, List.getElem_toArray, List.getElem_cons_zero, List.getElem_cons_succ, List.setIfInBounds_toArray, List.set_cons_zero, List.set_cons_succ]
                        refine wpAnyH_take (i := 23) (v := undef) rfl (by kernel_rfl) (by kernel_rfl) (by kernel_rfl) (fun _ _ _ h => nomatch h.1) (Or.inr ⟨by kernel_rfl, rfl⟩) hHeld2 ?_
                        try simp only [Act.put, List.getElem_toArray, List.getElem_cons_zero, List.getElem_cons_succ, List.setIfInBounds_toArray, List.set_cons_zero, List.set_cons_succ]
                        refine wpAnyH_take (i := 24) (v := undef) rfl (by kernel_rfl) (by kernel_rfl) (by kernel_rfl) (fun _ _ _ h => nomatch h.1) (Or.inr ⟨by kernel_rfl, rfl⟩) hHeld2 ?_
                        try simp only [Act.put, List.getElem_toArray, List.getElem_cons_zero, List.getElem_cons_succ, List.setIfInBounds_toArray, List.set_cons_zero, List.set_cons_succ]
                        refine wpAnyH_take (i := 25) (v := undef) rfl (by kernel_rfl) (by kernel_rfl) (by kernel_rfl) (fun _ _ _ h => nomatch h.1) (Or.inr ⟨by kernel_rfl, rfl⟩) hHeld2 ?_
                        try simp only [Act.put, List.getElem_toArray, List.getElem_cons_zero, List.getElem_cons_succ, List.setIfInBounds_toArray, List.set_cons_zero, List.set_cons_succ]
                        refine wpAnyH_take (i := 26) (v := undef) rfl (by kernel_rfl) (by kernel_rfl) (by kernel_rfl) (fun _ _ _ h => nomatch h.1) (Or.inr ⟨by kernel_rfl, rfl⟩) hHeld2 ?_
                        try simp only [Act.put, List.getElem_toArray, List.getElem_cons_zero, List.getElem_cons_succ, List.setIfInBounds_toArray, List.set_cons_zero, List.set_cons_succ]
                        refine wpAnyH_take (i := 27) (v := undef) rfl (by kernel_rfl) (by kernel_rfl) (by kernel_rfl) (fun _ _ _ h => nomatch h.1) (Or.inr ⟨by kernel_rfl, rfl⟩) hHeld2 ?_
                        try simp only [Act.put, List.getElem_toArray, List.getElem_cons_zero, List.getElem_cons_succ, List.setIfInBounds_toArray, List.set_cons_zero, List.set_cons_succ]
                        refine wpAnyH_take (i := 28) (v := undef) rfl (by kernel_rfl) (by kernel_rfl) (by kernel_rfl) (fun _ _ _ h => nomatch h.1) (Or.inr ⟨by kernel_rfl, rfl⟩) hHeld2 ?_
                        try simp only [Act.put, List.getElem_toArray, List.getElem_cons_zero, List.getElem_cons_succ, List.setIfInBounds_toArray, List.set_cons_zero, List.set_cons_succ]
                        refine wpAnyH_take (i := 29) (v := undef) rfl (by kernel_rfl) (by kernel_rfl) (by kernel_rfl) (fun _ _ _ h => nomatch h.1) (Or.inr ⟨by kernel_rfl, rfl⟩) hHeld2 ?_
                        try simp only [Act.put, List.getElem_toArray, List.getElem_cons_zero, List.getElem_cons_succ, List.setIfInBounds_toArray, List.set_cons_zero, List.set_cons_succ]
                        refine wpAnyH_take (i := 30) (v := undef) rfl (by kernel_rfl) (by kernel_rfl) (by kernel_rfl) (fun _ _ _ h => nomatch h.1) (Or.inr ⟨by kernel_rfl, rfl⟩) hHeld2 ?_
                        try simp only [Act.put, List.getElem_toArray, List.getElem_cons_zero, List.getElem_cons_succ, List.setIfInBounds_toArray, List.set_cons_zero, List.set_cons_succ]
                        refine wpAnyH_take (i := 31) (v := undef) rfl (by kernel_rfl) (by kernel_rfl) (by kernel_rfl) (fun _ _ _ h => nomatch h.1) (Or.inr ⟨by kernel_rfl, rfl⟩) hHeld2 ?_
                        try simp only [Act.put, List.getElem_toArray, List.getElem_cons_zero, List.getElem_cons_succ, List.setIfInBounds_toArray, List.set_cons_zero, List.set_cons_succ]
                        refine wpAnyH_take (i := 32) (v := undef) rfl (by kernel_rfl) (by kernel_rfl) (by kernel_rfl) (fun _ _ _ h => nomatch h.1) (Or.inr ⟨by kernel_rfl, rfl⟩) hHeld2 ?_
                        try simp only [Act.put, List.getElem_toArray, List.getElem_cons_zero, List.getElem_cons_succ, List.setIfInBounds_toArray, List.set_cons_zero, List.set_cons_succ]
                        refine wpAnyH_take (i := 33) (v := undef) rfl (by kernel_rfl) (by kernel_rfl) (by kernel_rfl) (fun _ _ _ h => nomatch h.1) (Or.inr ⟨by kernel_rfl, rfl⟩) hHeld2 ?_
                        try simp only [Act.put, List.getElem_toArray, List.getElem_cons_zero, List.getElem_cons_succ, List.setIfInBounds_toArray, List.set_cons_zero, List.set_cons_succ]
                        refine wpAnyH_take (i := 34) (v := ?vh68) rfl (by kernel_rfl) (by kernel_rfl) (by kernel_rfl) (fun _ _ _ h => nomatch h.1) (Or.inl ⟨by kernel_rfl, ?yh68⟩) hHeld2 ?rh68
                        case yh68 => (intro w' hS; (try dsimp only at hS); obtain ⟨s0, s1, s2, s3⟩ := hS; (try go_simp); (try with_reducible rfl))
                        try simp only [Act.put, List.getElem_toArray, List.getElem_cons_zero, List.getElem_cons_succ, List.setIfInBounds_toArray, List.set_cons_zero, List.set_cons_succ]
                        refine wpAnyH_done (by kernel_rfl) ?_ _
                        have hv : bad2 k j a b = false := by rw [B2.out, en0, dn1, dn2]; rfl
                        refine ⟨rfl, hb2, ?_⟩
                        rw [hv]
                        exact cut_ex (by kernel_rfl)
                    · have dn1 : decide (0 < ca) = false := decide_eq_false n1
                      refine wpAnyH_take (i := 6) (v := ?vh69) rfl (by kernel_rfl) (by kernel_rfl) (by kernel_rfl) (fun _ _ _ h => nomatch h.1) (Or.inl ⟨by kernel_rfl, ?yh69⟩) hHeld1 ?rh69
                      case yh69 => (intro w' hS; (try dsimp only at hS); obtain ⟨s0, s1, s2, s3⟩ := hS; (try go_simp); (try with_reducible rfl))
                      try simp only [Act.put, List.getElem_toArray, List.getElem_cons_zero, List.getElem_cons_succ, List.setIfInBounds_toArray, List.set_cons_zero, List.set_cons_succ]
                      refine wpAnyH_take (i := 7) (v := ?vh70) rfl (by kernel_rfl) (by kernel_rfl) (by kernel_rfl) (fun _ _ _ h => nomatch h.1) (Or.inl ⟨by kernel_rfl, ?yh70⟩) hHeld1 ?rh70
                      case yh70 => (intro w' hS; (try dsimp only at hS); obtain ⟨s0, s1, s2, s3⟩ := hS; (try go_simp); (try with_reducible rfl))
                      try simp only [Act.put, List.getElem_toArray, List.getElem_cons_zero, List.getElem_cons_succ, List.setIfInBounds_toArray, List.set_cons_zero, List.set_cons_succ]
                      refine wpAnyH_take (i := 8) (v := ?vh71) rfl (by kernel_rfl) (by kernel_rfl) (by kernel_rfl) (fun _ _ _ h => nomatch h.1) (Or.inl ⟨by kernel_rfl, ?yh71⟩) hHeld1 ?rh71
                      case yh71 => (intro w' hS; (try dsimp only at hS); obtain ⟨s0, s1, s2, s3⟩ := hS; (try go_simp); (try with_reducible rfl))
                      try simp only [Act.put, List.getElem_toArray, List.getElem_cons_zero, List.getElem_cons_succ, List.setIfInBounds_toArray, List.set_cons_zero, List.set_cons_succ]
                      refine wpAnyH_take (i := 9) (v := undef) rfl (by kernel_rfl) (by kernel_rfl) (by kernel_rfl) (fun _ _ _ h => nomatch h.1) (Or.inr ⟨by kernel_rfl, rfl⟩) hHeld1 ?_
                      try simp only [Act.put, List.getElem_toArray, List.getElem_cons_zero, List.getElem_cons_succ, List.setIfInBounds_toArray, List.set_cons_zero, List.set_cons_succ]
                      refine wpAnyH_take (i := 10) (v := undef) rfl (by kernel_rfl) (by kernel_rfl) (by kernel_rfl) (fun _ _ _ h => nomatch h.1) (Or.inr ⟨by kernel_rfl, rfl⟩) hHeld1 ?_
                      try simp only [Act.put, List.getElem_toArray, List.getElem_cons_zero, List.getElem_cons_succ, List.setIfInBounds_toArray, List.set_cons_zero, List.set_cons_succ]
                      refine wpAnyH_take (i := 11) (v := undef) rfl (by kernel_rfl) (by kernel_rfl) (by kernel_rfl) (fun _ _ _ h => nomatch h.1) (Or.inr ⟨by kernel_rfl, rfl⟩) hHeld1 ?_
                      try simp only [Act.put, List.getElem_toArray, List.getElem_cons_zero, List.getElem_cons_succ, List.setIfInBounds_toArray, List.set_cons_zero, List.set_cons_succ]
                      refine wpAnyH_take (i := 12) (v := ?vh72) rfl (by kernel_rfl) (by kernel_rfl) (by kernel_rfl) (fun _ _ _ h => nomatch h.1) (Or.inl ⟨by kernel_rfl, ?yh72⟩) hHeld1 ?rh72
                      case yh72 => (intro w' hS; (try dsimp only at hS); obtain ⟨s0, s1, s2, s3⟩ := hS; (try go_simp); (try with_reducible rfl))
                      try simp only [Act.put, List.getElem_toArray, List.getElem_cons_zero, List.getElem_cons_succ, List.setIfInBounds_toArray, List.set_cons_zero, List.set_cons_succ]
                      refine wpAnyH_take (i := 13) (v := ?vh73) rfl (by kernel_rfl) (by kernel_rfl) (by kernel_rfl) (fun _ _ _ h => nomatch h.1) (Or.inl ⟨by kernel_rfl, ?yh73⟩) hHeld1 ?rh73
                      case yh73 => (intro w' hS; (try dsimp only at hS); obtain ⟨s0, s1, s2, s3⟩ := hS; (try go_simp); (try with_reducible rfl))
                      try simp only [Act.put, List.getElem_toArray, List.getElem_cons_zero, List.getElem_cons_succ, List.setIfInBounds_toArray, List.set_cons_zero, List.set_cons_succ]
                      refine wpAnyH_take (i := 14) (v := undef) rfl (by kernel_rfl) (by kernel_rfl) (by kernel_rfl) (fun _ _ _ h => nomatch h.1) (Or.inr ⟨by kernel_rfl, rfl⟩) hHeld1 ?_
                      try simp only [Act.put, List.getElem_toArray, List.getElem_cons_zero, List.getElem_cons_succ, List.setIfInBounds_toArray, List.set_cons_zero, List.set_cons_succ]
                      refine wpAnyH_take (i := 15) (v := undef) rfl (by kernel_rfl) (by kernel_rfl) (by kernel_rfl) (fun _ _ _ h => nomatch h.1) (Or.inr ⟨by kernel_rfl, rfl⟩) hHeld1 ?_
                      try simp only [Act.put, List.getElem_toArray, List.getElem_cons_zero, List.getElem_cons_succ, List.setIfInBounds_toArray, List.set_cons_zero, List.set_cons_succ]
                      refine wpAnyH_take (i := 16) (v := undef) rfl (by kernel_rfl) (by kernel_rfl) (by kernel_rfl) (fun _ _ _ h => nomatch h.1) (Or.inr ⟨by kernel_rfl, rfl⟩) hHeld1 ?_
                      try simp only [Act.put, List.getElem_toArray, List.getElem_cons_zero, List.getElem_cons_succ, List.setIfInBounds_toArray, List.set_cons_zero, List.set_cons_succ]
                      refine wpAnyH_take (i := 17) (v := undef) rfl (by kernel_rfl) (by kernel_rfl) (by kernel_rfl) (fun _ _ _ h => nomatch h.1) (Or.inr ⟨by kernel_rfl, rfl⟩) hHeld1 ?_
                      try simp only [Act.put, List.getElem_toArray, List.getElem_cons_zero, List.getElem_cons_succ, List.setIfInBounds_toArray, List.set_cons_zero, List.set_cons_succ]
                      refine wpAnyH_take (i := 18) (v := undef) rfl (by kernel_rfl) (by kernel_rfl) (by kernel_rfl) (fun _ _ _ h => nomatch h.1) (Or.inr ⟨by kernel_rfl, rfl⟩) hHeld1 ?_
                      try simp only [Act.put, List.getElem_toArray, List.getElem_cons_zero, List.getElem_cons_succ, List.setIfInBounds_toArray, List.set_cons_zero, List.set_cons_succ]
                      refine wpAnyH_take (i := 19) (v := undef) rfl (by kernel_rfl) (by kernel_rfl) (by kernel_rfl) (fun _ _ _ h => nomatch h.1) (Or.inr ⟨by kernel_rfl, rfl⟩) hHeld1 ?_
                      try simp only [Act.put, List.getElem_toArray, List.getElem_cons_zero, List.getElem_cons_succ, List.setIfInBounds_toArray, List.set_cons_zero, List.set_cons_succ]
                      refine wpAnyH_take (i := 20) (v := undef) rfl (by kernel_rfl) (by kernel_rfl) (by kernel_rfl) (fun _ _ _ h => nomatch h.1) (Or.inr ⟨by kernel_rfl, rfl⟩) hHeld1 ?_
                      try simp only [Act.put, List.getElem_toArray, List.getElem_cons_zero, List.getElem_cons_succ, List.setIfInBounds_toArray, List.set_cons_zero, List.set_cons_succ]
                      refine wpAnyH_take (i := 21) (v := undef) rfl (by kernel_rfl) (by kernel_rfl) (by kernel_rfl) (fun _ _ _ h => nomatch h.1) (Or.inr ⟨by kernel_rfl, rfl⟩) hHeld1 ?_
                      try simp only [Act.put, List.getElem_toArray, List.getElem_cons_zero, List.getElem_cons_succ, List.setIfInBounds_toArray, List.set_cons_zero, List.set_cons_succ]
                      refine wpAnyH_take (i := 22) (v := undef) rfl (by kernel_rfl) (by kernel_rfl) (by kernel_rfl) (fun _ _ _ h => nomatch h.1) (Or.inr ⟨by kernel_rfl, rfl⟩) hHeld1 ?_
                      try simp only [Act.put, List.getElem_toArray, List.getElem_cons_zero, List.getElem_cons_succ, List.setIfInBounds_toArray, List.set_cons_zero, List.set_cons_succ]
                      refine wpAnyH_take (i := 23) (v := undef) rfl (by kernel_rfl) (by kernel_rfl) (by kernel_rfl) (fun _ _ _ h => nomatch h.1) (Or.inr ⟨by kernel_rfl, rfl⟩) hHeld1 ?_
                      try simp only [Act.put, List.getElem_toArray, List.getElem_cons_zero, List.getElem_cons_succ, List.setIfInBounds_toArray, List.set_cons_zero, List.set_cons_succ]
                      refine wpAnyH_take (i := 24) (v := undef) rfl (by kernel_rfl) (by kernel_rfl) (by kernel_rfl) (fun _ _ _ h => nomatch h.1) (Or.inr ⟨by kernel_rfl, rfl⟩) hHeld1 ?_
                      try simp only [Act.put, List.getElem_toArray, List.getElem_cons_zero, List.getElem_cons_succ, List.setIfInBounds_toArray, List.set_cons_zero, List.set_cons_succ]
                      refine wpAnyH_take (i := 25) (v := undef) rfl (by kernel_rfl) (by kernel_rfl) (by kernel_rfl) (fun _ _ _ h => nomatch h.1) (Or.inr ⟨by kernel_rfl, rfl⟩) hHeld1 ?_
                      try simp only [Act.put, List.getElem_toArray, List.getElem_cons_zero, List.getElem_cons_succ, List.setIfInBounds_toArray, List.set_cons_zero, List.set_cons_succ]
                      refine wpAnyH_take (i := 26) (v := undef) rfl (by kernel_rfl) (by kernel_rfl) (by kernel_rfl) (fun _ _ _ h => nomatch h.1) (Or.inr ⟨by kernel_rfl, rfl⟩) hHeld1 ?_
                      try simp only [Act.put, List.getElem_toArray, List.getElem_cons_zero, List.getElem_cons_succ, List.setIfInBounds_toArray, List.set_cons_zero, List.set_cons_succ]
                      refine wpAnyH_take (i := 27) (v := undef) rfl (by kernel_rfl) (by kernel_rfl) (by kernel_rfl) (fun _ _ _ h => nomatch h.1) (Or.inr ⟨by kernel_rfl, rfl⟩) hHeld1 ?_
                      try simp only [Act.put, List.getElem_toArray, List.getElem_cons_zero, List.getElem_cons_succ, List.setIfInBounds_toArray, List.set_cons_zero, List.set_cons_succ]
                      refine wpAnyH_take (i := 28) (v := undef) rfl (by kernel_rfl) (by kernel_rfl) (by kernel_rfl) (fun _ _ _ h => nomatch h.1) (Or.inr ⟨by kernel_rfl, rfl⟩) hHeld1 ?_
                      try simp only [Act.put, List.getElem_toArray, List.getElem_cons_zero, List.getElem_cons_succ, List.setIfInBounds_toArray, List.set_cons_zero, List.set_cons_succ]
                      refine wpAnyH_take (i := 29) (v := undef) rfl (by kernel_rfl) (by kernel_rfl) (by kernel_rfl) (fun _ _ _ h => nomatch h.1) (Or.inr ⟨by kernel_rfl, rfl⟩) hHeld1 ?_
                      try simp only [Act.put, List.getElem_toArray, List.getElem_cons_zero, List.getElem_cons_succ, List.setIfInBounds_toArray, List.set_cons_zero, List.set_cons_succ]
                      refine wpAnyH_take (i := 30) (v := undef) rfl (by kernel_rfl) (by kernel_rfl) (by kernel_rfl) (fun _ _ _ h => nomatch h.1) (Or.inr ⟨by kernel_rfl, rfl⟩) hHeld1 ?_
                      try simp only [Act.put, List.getElem_toArray, List.getElem_cons_zero, List.getElem_cons_succ, List.setIfInBounds_toArray, List.set_cons_zero, List.set_cons_succ]
                      refine wpAnyH_take (i := 31) (v := undef) rfl (by kernel_rfl) (by kernel_rfl) (by kernel_rfl) (fun _ _ _ h => nomatch h.1) (Or.inr ⟨by kernel_rfl, rfl⟩) hHeld1 ?_
                      try simp only [Act.put, List.getElem_toArray, List.getElem_cons_zero, List.getElem_cons_succ, List.setIfInBounds_toArray, List.set_cons_zero, List.set_cons_succ]
                      refine wpAnyH_take (i := 32) (v := undef) rfl (by kernel_rfl) (by kernel_rfl) (by kernel_rfl) (fun _ _ _ h => nomatch h.1) (Or.inr ⟨by kernel_rfl, rfl⟩) hHeld1 ?_
                      try simp only [Act.put, List.getElem_toArray, List.getElem_cons_zero, List.getElem_cons_succ, List.setIfInBounds_toArray, List.set_cons_zero, List.set_cons_succ]
                      refine wpAnyH_take (i := 33) (v := undef) rfl (by kernel_rfl) (by kernel_rfl) (by kernel_rfl) (fun _ _ _ h => nomatch h.1) (Or.inr ⟨by kernel_rfl, rfl⟩) hHeld1 ?_
                      try simp only [Act.put, List.getElem_toArray, List.getElem_cons_zero, List.getElem_cons_succ, List.setIfInBounds_toArray, List.set_cons_zero, List.set_cons_succ]
                      refine wpAnyH_take (i := 34) (v := ?vh74) rfl (by kernel_rfl) (by kernel_rfl) (by kernel_rfl) (fun _ _ _ h => nomatch h.1) (Or.inl ⟨by kernel_rfl, ?yh74⟩) hHeld1 ?rh74
                      case yh74 => (intro w' hS; (try dsimp only at hS); obtain ⟨s0, s1, s2, s3⟩ := hS; (try go_simp); (try with_reducible rfl))
                      try simp only [Act.put, List.getElem_toArray, List.getElem_cons_zero, List.getElem_cons_succ, List.setIfInBounds_toArray, List.set_cons_zero, List.set_cons_succ]
                      refine wpAnyH_done (by kernel_rfl) ?_ _
                      have hv : bad2 k j a b = false := by rw [B2.out, en0, dn1]; rfl
                      refine ⟨rfl, hb1, ?_⟩
                      rw [hv]
                      exact cut_ex (by kernel_rfl)
                  · have dn0 : ((k : Int) != (j : Int)) = false := by rw [bne_eq_false_iff_eq]; omega
                    have en0 : decide (k ≠ j) = false := decide_eq_false n0
                    refine wpAnyH_take (i := 2) (v := ?vh75) rfl (by kernel_rfl) (by kernel_rfl) (by kernel_rfl) (fun _ _ _ h => nomatch h.1) (Or.inl ⟨by kernel_rfl, ?yh75⟩) hHeld0 ?rh75
                    case yh75 => (intro w' hS; (try dsimp only at hS); obtain ⟨s0, s1, s2, s3⟩ := hS; (try go_simp); (try with_reducible rfl))
                    try simp only [Act.put, List.getElem_toArray, List.getElem_cons_zero, List.getElem_cons_succ, List.setIfInBounds_toArray, List.set_cons_zero, List.set_cons_succ]
                    refine wpAnyH_take (i := 3) (v := ?vh76) rfl (by kernel_rfl) (by kernel_rfl) (by kernel_rfl) (fun _ _ _ h => nomatch h.1) (Or.inl ⟨by kernel_rfl, ?yh76⟩) hHeld0 ?rh76
                    case yh76 => (intro w' hS; (try dsimp only at hS); obtain ⟨s0, s1, s2, s3⟩ := hS; (try go_simp); (try with_reducible rfl))
                    try simp only [Act.put, List.getElem_toArray, List.getElem_cons_zero, List.getElem_cons_succ, List.setIfInBounds_toArray, List.set_cons_zero, List.set_cons_succ]
                    refine wpAnyH_take (i := 4) (v := undef) rfl (by kernel_rfl) (by kernel_rfl) (by kernel_rfl) (fun _ _ _ h => nomatch h.1) (Or.inr ⟨by kernel_rfl, rfl⟩) hHeld0 ?_
                    try simp only [Act.put, List.getElem_toArray, List.getElem_cons_zero, List.getElem_cons_succ, List.setIfInBounds_toArray, List.set_cons_zero, List.set_cons_succ]
                    refine wpAnyH_take (i := 5) (v := undef) rfl (by kernel_rfl) (by kernel_rfl) (by kernel_rfl) (fun _ _ _ h => nomatch h.1) (Or.inr ⟨by kernel_rfl, rfl⟩) hHeld0 ?_
                    try simp only [Act.put, List.getElem_toArray, List.getElem_cons_zero, List.getElem_cons_succ, List.setIfInBounds_toArray, List.set_cons_zero, List.set_cons_succ]
                    refine wpAnyH_take (i := 6) (v := undef) rfl (by kernel_rfl) (by kernel_rfl) (by kernel_rfl) (fun _ _ _ h => nomatch h.1) (Or.inr ⟨by kernel_rfl, rfl⟩) hHeld0 ?_
                    try simp only [Act.put, List.getElem_toArray, List.getElem_cons_zero, List.getElem_cons_succ, List.setIfInBounds_toArray, List.set_cons_zero, List.set_cons_succ]
                    refine wpAnyH_take (i := 7) (v := ?vh77) rfl (by kernel_rfl) (by kernel_rfl) (by kernel_rfl) (fun _ _ _ h => nomatch h.1) (Or.inl ⟨by kernel_rfl, ?yh77⟩) hHeld0 ?rh77
                    case yh77 => (intro w' hS; (try dsimp only at hS); obtain ⟨s0, s1, s2, s3⟩ := hS; (try go_simp); (try with_reducible rfl))
                    try simp only [Act.put, List.getElem_toArray, List.getElem_cons_zero, List.getElem_cons_succ, List.setIfInBounds_toArray, List.set_cons_zero, List.set_cons_succ]
                    refine wpAnyH_take (i := 8) (v := ?vh78) rfl (by kernel_rfl) (by kernel_rfl) (by kernel_rfl) (fun _ _ _ h => nomatch h.1) (Or.inl ⟨by kernel_rfl, ?yh78⟩) hHeld0 ?rh78
                    case yh78 => (intro w' hS; (try dsimp only at hS); obtain ⟨s0, s1, s2, s3⟩ := hS; (try go_simp); (try with_reducible rfl))
                    try simp only [Act.put, List.getElem_toArray, List.getElem_cons_zero, List.getElem_cons_succ, List.setIfInBounds_toArray, List.set_cons_zero, List.set_cons_succ]
                    refine wpAnyH_take (i := 9) (v := undef) rfl (by kernel_rfl) (by kernel_rfl) (by kernel_rfl) (fun _ _ _ h => nomatch h.1) (Or.inr ⟨by kernel_rfl, rfl⟩) hHeld0 ?_
                    try simp only [Act.put, List.getElem_toArray, List.getElem_cons_zero, List.getElem_cons_succ, List.setIfInBounds_toArray, List.set_cons_zero, List.set_cons_succ]
                    refine wpAnyH_take (i := 10) (v := undef) rfl (by kernel_rfl) (by kernel_rfl) (by kernel_rfl) (fun _ _ _ h => nomatch h.1) (Or.inr ⟨by kernel_rfl, rfl⟩) hHeld0 ?_
                    try simp only [Act.put, List.getElem_toArray, List.getElem_cons_zero, List.getElem_cons_succ, List.setIfInBounds_toArray, List.set_cons_zero, List.set_cons_succ]
                    refine wpAnyH_take (i := 11) (v := undef) rfl (by kernel_rfl) (by kernel_rfl) (by kernel_rfl) (fun _ _ _ h => nomatch h.1) (Or.inr ⟨by kernel_rfl, rfl⟩) hHeld0 ?_
                    try simp only [Act.put, List.getElem_toArray, List.getElem_cons_zero, List.getElem_cons_succ, List.setIfInBounds_toArray, List.set_cons_zero, List.set_cons_succ]
                    refine wpAnyH_take (i := 12) (v := ?vh79) rfl (by kernel_rfl) (by kernel_rfl) (by kernel_rfl) (fun _ _ _ h => nomatch h.1) (Or.inl ⟨by kernel_rfl, ?yh79⟩) hHeld0 ?rh79
                    case yh79 => (intro w' hS; (try dsimp only at hS); obtain ⟨s0, s1, s2, s3⟩ := hS; (try go_simp); (try with_reducible rfl))
                    try simp only [Act.put, List.getElem_toArray, List.getElem_cons_zero, List.getElem_cons_succ, List.setIfInBounds_toArray, List.set_cons_zero, List.set_cons_succ]
                    refine wpAnyH_take (i := 13) (v := ?vh80) rfl (by kernel_rfl) (by kernel_rfl) (by kernel_rfl) (fun _ _ _ h => nomatch h.1) (Or.inl ⟨by kernel_rfl, ?yh80⟩) hHeld0 ?rh80
                    case yh80 => (intro w' hS; (try dsimp only at hS); obtain ⟨s0, s1, s2, s3⟩ := hS; (try go_simp); (try with_reducible rfl))
                    try simp only [Act.put, List.getElem_toArray, List.getElem_cons_zero, List.getElem_cons_succ, List.setIfInBounds_toArray, List.set_cons_zero, List.set_cons_succ]
                    refine wpAnyH_take (i := 14) (v := undef) rfl (by kernel_rfl) (by kernel_rfl) (by kernel_rfl) (fun _ _ _ h => nomatch h.1) (Or.inr ⟨by kernel_rfl, rfl⟩) hHeld0 ?_
                    try simp only [Act.put, List.getElem_toArray, List.getElem_cons_zero, List.getElem_cons_succ, List.setIfInBounds_toArray, List.set_cons_zero, List.set_cons_succ]
                    refine wpAnyH_take (i := 15) (v := undef) rfl (by kernel_rfl) (by kernel_rfl) (by kernel_rfl) (fun _ _ _ h => nomatch h.1) (Or.inr ⟨by kernel_rfl, rfl⟩) hHeld0 ?_
                    try simp only [Act.put, List.getElem_toArray, List.getElem_cons_zero, List.getElem_cons_succ, List.setIfInBounds_toArray, List.set_cons_zero, List.set_cons_succ]
                    refine wpAnyH_take (i := 16) (v := undef) rfl (by kernel_rfl) (by kernel_rfl) (by kernel_rfl) (fun _ _ _ h => nomatch h.1) (Or.inr ⟨by kernel_rfl, rfl⟩) hHeld0 ?_
                    try simp only [Act.put, List.getElem_toArray, List.getElem_cons_zero, List.getElem_cons_succ, List.setIfInBounds_toArray, List.set_cons_zero, List.set_cons_succ]
                    refine wpAnyH_take (i := 17) (v := undef) rfl (by kernel_rfl) (by kernel_rfl) (by kernel_rfl) (fun _ _ _ h => nomatch h.1) (Or.inr ⟨by kernel_rfl, rfl⟩) hHeld0 ?_
                    try simp only [Act.put, List.getElem_toArray, List.getElem_cons_zero, List.getElem_cons_succ, List.setIfInBounds_toArray, List.set_cons_zero, List.set_cons_succ]
                    refine wpAnyH_take (i := 18) (v := undef) rfl (by kernel_rfl) (by kernel_rfl) (by kernel_rfl) (fun _ _ _ h => nomatch h.1) (Or.inr ⟨by kernel_rfl, rfl⟩) hHeld0 ?_
                    try simp only [Act.put, List.getElem_toArray, List.getElem_cons_zero, List.getElem_cons_succ, List.setIfInBounds_toArray, List.set_cons_zero, List.set_cons_succ]
                    refine wpAnyH_take (i := 19) (v := undef) rfl (by kernel_rfl) (by kernel_rfl) (by kernel_rfl) (fun _ _ _ h => nomatch h.1) (Or.inr ⟨by kernel_rfl, rfl⟩) hHeld0 ?_
                    try simp only [Act.put, List.getElem_toArray, List.getElem_cons_zero, List.getElem_cons_succ, List.setIfInBounds_toArray, List.set_cons_zero, List.set_cons_succ]
                    refine wpAnyH_take (i := 20) (v := undef) rfl (by kernel_rfl) (by kernel_rfl) (by kernel_rfl) (fun _ _ _ h => nomatch h.1) (Or.inr ⟨by kernel_rfl, rfl⟩) hHeld0 ?_
                    try simp only [Act.put, List.getElem_toArray, List.getElem_cons_zero, List.getElem_cons_succ, List.setIfInBounds_toArray, List.set_cons_zero, List.set_cons_succ]
                    refine wpAnyH_take (i := 21) (v := undef) rfl (by kernel_rfl) (by kernel_rfl) (by kernel_rfl) (fun _ _ _ h => nomatch h.1) (Or.inr ⟨by kernel_rfl, rfl⟩) hHeld0 ?_
                    try simp only [Act.put, List.getElem_toArray, List.getElem_cons_zero, List.getElem_cons_succ, List.setIfInBounds_toArray, List.set_cons_zero, List.set_cons_succ]
                    refine wpAnyH_take (i := 22) (v := undef) rfl (by kernel_rfl) (by kernel_rfl) (by kernel_rfl) (fun _ _ _ h => nomatch h.1) (Or.inr ⟨by kernel_rfl, rfl⟩) hHeld0 ?_
                    try simp only [Act.put, List.getElem_toArray, List.getElem_cons_zero, List.getElem_cons_succ, List.setIfInBounds_toArray, List.set_cons_zero, List.set_cons_succ]
                    refine wpAnyH_take (i := 23) (v := undef) rfl (by kernel_rfl) (by kernel_rfl) (by kernel_rfl) (fun _ _ _ h => nomatch h.1) (Or.inr ⟨by kernel_rfl, rfl⟩) hHeld0 ?_
                    try simp only [Act.put, List.getElem_toArray, List.getElem_cons_zero, List.getElem_cons_succ, List.setIfInBounds_toArray, List.set_cons_zero, List.set_cons_succ]
                    refine wpAnyH_take (i := 24) (v := undef) rfl (by kernel_rfl) (by kernel_rfl) (by kernel_rfl) (fun _ _ _ h => nomatch h.1) (Or.inr ⟨by kernel_rfl, rfl⟩) hHeld0 ?_
                    try simp only [Act.put, List.getElem_toArray, List.getElem_cons_zero, List.getElem_cons_succ, List.setIfInBounds_toArray, List.set_cons_zero, List.set_cons_succ]
                    refine wpAnyH_take (i := 25) (v := undef) rfl (by kernel_rfl) (by kernel_rfl) (by kernel_rfl) (fun _ _ _ h => nomatch h.1) (Or.inr ⟨by kernel_rfl, rfl⟩) hHeld0 ?_
                    try simp only [Act.put, List.getElem_toArray, List.getElem_cons_zero, List.getElem_cons_succ, List.setIfInBounds_toArray, List.set_cons_zero, List.set_cons_succ]
                    refine wpAnyH_take (i := 26) (v := undef) rfl (by kernel_rfl) (by kernel_rfl) (by kernel_rfl) (fun _ _ _ h => nomatch h.1) (Or.inr ⟨by kernel_rfl, rfl⟩) hHeld0 ?_
                    try simp only [Act.put, List.getElem_toArray, List.getElem_cons_zero, List.getElem_cons_succ, List.setIfInBounds_toArray, List.set_cons_zero, List.set_cons_succ]
                    refine wpAnyH_take (i := 27) (v := undef) rfl (by kernel_rfl) (by kernel_rfl) (by kernel_rfl) (fun _ _ _ h => nomatch h.1) (Or.inr ⟨by kernel_rfl, rfl⟩) hHeld0 ?_
                    try simp only [Act.put, List.getElem_toArray, List.getElem_cons_zero, List.getElem_cons_succ, List.setIfInBounds_toArray, List.set_cons_zero, List.set_cons_succ]
                    refine wpAnyH_take (i := 28) (v := undef) rfl (by kernel_rfl) (by kernel_rfl) (by kernel_rfl) (fun _ _ _ h => nomatch h.1) (Or.inr ⟨by kernel_rfl, rfl⟩) hHeld0 ?_
                    try simp only [Act.put, List.getElem_toArray, List.getElem_cons_zero, List.getElem_cons_succ, List.setIfInBounds_toArray, List.set_cons_zero, List.set_cons_succ]
                    refine wpAnyH_take (i := 29) (v := undef) rfl (by kernel_rfl) (by kernel_rfl) (by kernel_rfl) (fun _ _ _ h => nomatch h.1) (Or.inr ⟨by kernel_rfl, rfl⟩) hHeld0 ?_
                    try simp only [Act.put, List.getElem_toArray, List.getElem_cons_zero, List.getElem_cons_succ, List.setIfInBounds_toArray, List.set_cons_zero, List.set_cons_succ]
                    refine wpAnyH_take (i := 30) (v := undef) rfl (by kernel_rfl) (by kernel_rfl) (by kernel_rfl) (fun _ _ _ h => nomatch h.1) (Or.inr ⟨by kernel_rfl, rfl⟩) hHeld0 ?_
                    try simp only [Act.put, List.getElem_toArray, List.getElem_cons_zero, List.getElem_cons_succ, List.setIfInBounds_toArray, List.set_cons_zero, List.set_cons_succ]
                    refine wpAnyH_take (i := 31) (v := undef) rfl (by kernel_rfl) (by kernel_rfl) (by kernel_rfl) (fun _ _ _ h => nomatch h.1) (Or.inr ⟨by kernel_rfl, rfl⟩) hHeld0 ?_
                    try simp only [Act.put, List.getElem_toArray, List.getElem_cons_zero, List.getElem_cons_succ, List.setIfInBounds_toArray, List.set_cons_zero, List.set_cons_succ]
                    refine wpAnyH_take (i := 32) (v := undef) rfl (by kernel_rfl) (by kernel_rfl) (by kernel_rfl) (fun _ _ _ h => nomatch h.1) (Or.inr ⟨by kernel_rfl, rfl⟩) hHeld0 ?_
                    try simp only [Act.put, List.getElem_toArray, List.getElem_cons_zero, List.getElem_cons_succ, List.setIfInBounds_toArray, List.set_cons_zero, List.set_cons_succ]
                    refine wpAnyH_take (i := 33) (v := undef) rfl (by kernel_rfl) (by kernel_rfl) (by kernel_rfl) (fun _ _ _ h => nomatch h.1) (Or.inr ⟨by kernel_rfl, rfl⟩) hHeld0 ?_
                    try simp only [Act.put, List.getElem_toArray, List.getElem_cons_zero, List.getElem_cons_succ, List.setIfInBounds_toArray, List.set_cons_zero, List.set_cons_succ]
                    refine wpAnyH_take (i := 34) (v := ?vh81) rfl (by kernel_rfl) (by kernel_rfl) (by kernel_rfl) (fun _ _ _ h => nomatch h.1) (Or.inl ⟨by kernel_rfl, ?yh81⟩) hHeld0 ?rh81
                    case yh81 => (intro w' hS; (try dsimp only at hS); obtain ⟨s0, s1, s2, s3⟩ := hS; (try go_simp); (try with_reducible rfl))
                    try simp only [Act.put, List.getElem_toArray, List.getElem_cons_zero, List.getElem_cons_succ, List.setIfInBounds_toArray, List.set_cons_zero, List.set_cons_succ]
                    refine wpAnyH_done (by kernel_rfl) ?_ _
                    have hv : bad2 k j a b = false := by rw [B2.out, en0]; rfl
                    refine ⟨rfl, hbz, ?_⟩
                    rw [hv]
                    exact cut_ex (by kernel_rfl)
                case rest13 =>
                  intro x W4 hc4
                  by_cases hv2 : bad2 k j a b = true
                  · have hx : Hid (allOrd f 0 f = false) := by rw [Hid, hT2.out, show rowOrd k a 0 f = false from by rw [hU2.out, if_pos (Or.inr hv2)]]; rfl
                    rw [hv2]
                    go_wp2
                    go_ret
                    exact ⟨ret_bool (by rw [hfin.out, hx.out]), hb1.trans ((hcl _ hc4).mono hb1.size)⟩
                  · have hx : Hid (rowOrd k a 0 f = rowOrd k a (j + 1) (f.drop (j + 1))) := by rw [Hid, hU2.out, if_neg (by rintro (h | h); exact hv1 h; exact hv2 h)]
                    rw [show bad2 k j a b = false from by simpa using hv2]
                    go_wp2
                    go_roundw
                    (case rel => exact ⟨j + 1, by omega, by go_num, hcl _ hc4, hx⟩)
                    (case measure => simp [intOf]; omega)
          · have hj4 : (4 : Int) ≤ (j : Int) := by omega
            have hx : Hid (rowOrd k a 0 f = true) := by rw [Hid, hU.out, List.drop_of_length_le (by rw [HL.out]; omega)]; rfl
            have hx2 : Hid (allOrd f 0 f = allOrd f (k + 1) (f.drop (k + 1))) := by rw [Hid, hT2.out, if_pos hx.out]
            clear hU hT2 hx
            go_wp2
            go_roundw
            (case rel => exact ⟨k + 1, by omega, by go_num, hBl, hx2⟩)
            (case measure => simp [intOf]; omega)
      · have hk4 : (4 : Int) ≤ (k : Int) := by omega
        have hx : Hid (allOrd f 0 f = true) := by rw [Hid, hT.out, List.drop_of_length_le (by rw [HL.out]; omega)]; rfl
        clear hT
        go_wp2
        go_ret
        exact ⟨ret_bool (by rw [hfin.out, hx.out]), hb1.trans (hB.mono hb1.size)⟩
  · have hok' : flashOk f = false := by simpa using hok
    have hfin : Hid (findOrder f = false) := by unfold Hid findOrder; rw [if_neg hok]
    go_enter Try.func64, Try.ntmps64
    go_wp2_with fail
    refine (spec_FlashOk f A c _ hl hF).mono ?_
    rw [hok']
    rintro e w1 ⟨rfl, hb⟩
    go_wp2
    go_ret
    exact ⟨ret_bool (by rw [hfin.out]), hb⟩
end Go.Proofs.Ytbekihiiildgmaa
namespace Go.Proofs.Ytbekihiiildgmaa
set_option linter.unusedVariables false
set_option linter.unusedSimpArgs false
open Go.RowKit
theorem made_get (z : Array Value) (n j : Nat) (hz : 0 < z.size) (hj : j < n) : (madeCells z n).toList[j]? = z.toList[j % z.size]? := by
  have hm : j % z.size < z.size := Nat.mod_lt _ hz
  simp [madeCells, hj, hm]
theorem flat_rep {α : Type} (g : α → List Value) (x : α) (m : Nat) (hm : (g x).length = m) (h0 : 0 < m) (n : Nat) : ∀ j : Nat, j < n * m → ((List.replicate n x).flatMap g)[j]? = (g x)[j % m]? := by
  induction n with
  | zero => intro j h; omega
  | succ n ih =>
    intro j h
    rw [Nat.succ_mul] at h
    simp only [List.replicate_succ, List.flatMap_cons]
    by_cases hj : j < m
    · rw [List.getElem?_append_left (by omega), Nat.mod_eq_of_lt hj]
    · have h1 := ih (j - m) (by omega)
      rw [List.getElem?_append_right (by omega), hm, h1, Nat.mod_eq_sub_mod (by omega : j ≥ m)]
theorem made_list {α : Type} (g : α → List Value) (x : α) (z : Array Value) (m : Nat) (hm : z.size = m) (hz : z.toList = g x) (h0 : 0 < z.size) (n : Nat) : (madeCells z (n * m)).toList = (List.replicate n x).flatMap g := by
  subst hm
  have hl : (g x).length = z.size := by rw [← hz]; simp
  refine List.ext_getElem? fun j => ?_
  by_cases hj : j < n * z.size
  · rw [made_get z _ j h0 hj, flat_rep g x z.size hl h0 n j hj, hz]
  · have e : ∀ k : Nat, ((List.replicate k x).flatMap g).length = k * z.size := by
      intro k
      induction k with
      | zero => simp
      | succ k ih => rw [List.replicate_succ, List.flatMap_cons, List.length_append, ih, hl, Nat.succ_mul]; omega
    rw [List.getElem?_eq_none (by rw [Array.length_toList, size_madeCells]; omega), List.getElem?_eq_none (by rw [e]; omega)]
theorem run_make_n {P : Program} (t e : TypeId) (i : TypeInfo) (z : Value) (size bytes : Nat) (ht : P.underlying t = some (.slice e)) (hi : P.info? e = some i) (hz : i.zero = some z) (hs : i.size = size) (hb : i.bytes = bytes) (n : Nat) (hn : n * bytes ≤ 281474976710656) (h63 : n ≤ 9223372036854775807) (w : World) :
    (Instr.makeSlice t (.int .i64 (n : Int)) (.int .i64 (n : Int))).run P w = .ok (.slice (some ⟨w.heap.size, 0, none⟩) n n) (w.alloc (.cells (madeCells z.cells (n * size)) e)) := by
  subst hs; subst hb
  have h : (i.bytes : Int) * (n : Int) ≤ 281474976710656 := by
    have h' : ((i.bytes * n : Nat) : Int) ≤ 281474976710656 := by rw [Nat.mul_comm]; omega
    rwa [Int.natCast_mul] at h'
  have hr := run_make (P := P) w t e i z ht hi hz .i64 .i64 n n (by omega) (by omega) h (by omega)
  simp only [Int.toNat_natCast] at hr
  exact hr
theorem hdrs_rep : ∀ n : Nat, hdrs (List.replicate n zbk) (List.replicate n (none, 0)) = (List.replicate n ()).flatMap (fun _ => [Value.slice none 0 0, .int .i64 0])
  | 0 => rfl
  | n + 1 => by simp only [List.replicate_succ, List.flatMap_cons, hdrs, hdrs_rep n]; rfl
/-- cells that can be read -/
def RRow (w : World) (A : Option Addr) (vs : List Value) : Prop := vs ≠ [] → ∃ b o, A = some ⟨b, o, none⟩ ∧ ∀ j u, vs[j]? = some u → w.cell? ⟨b, o + j, none⟩ = some u
theorem RRow.below {w w' : World} {A : Option Addr} {vs : List Value} {B : Nat} (h : RRow w A vs) (hb : Below B w w') (hB : w.heap.size ≤ B) : RRow w' A vs := fun hn => by
  obtain ⟨b, o, rfl, hc⟩ := h hn
  exact ⟨b, o, rfl, fun j u hj => (hb.cell (p := ⟨b, o + j, none⟩) (by have := lt_of_cell (hc j u hj); show b < B; omega)).trans (hc j u hj)⟩
theorem RRow.alloc {w : World} {A : Option Addr} {vs : List Value} (h : RRow w A vs) (o : Obj) : RRow (w.alloc o) A vs := h.below ((Below.refl _ _).alloc (Nat.le_refl _) o) (Nat.le_refl _)
theorem RRow.addr {w : World} {A : Option Addr} {vs : List Value} (h : RRow w A vs) (hn : vs ≠ []) : ∃ b o, A = some ⟨b, o, none⟩ := by
  obtain ⟨b, o, rfl, _⟩ := h hn; exact ⟨b, o, rfl⟩
theorem RRow.pg {w : World} {b o k : Nat} {ps : List Pg} {p : Pg} (h : RRow w (some ⟨b, o, none⟩) (pgs ps)) (hk : ps[k]? = some p) :
    w.cell? ⟨b, o + k * 5, none⟩ = some (.int .i64 p.state) ∧ w.cell? ⟨b, o + k * 5 + 1, none⟩ = some (.int .i64 p.rc.kind) ∧ w.cell? ⟨b, o + k * 5 + 2, none⟩ = some (.int .i64 p.rc.seq) ∧
      w.cell? ⟨b, o + k * 5 + 3, none⟩ = some (.int .i64 p.rc.addr) ∧ w.cell? ⟨b, o + k * 5 + 4, none⟩ = some (.int .i64 p.rc.val) := by
  have hlt := (List.getElem?_eq_some_iff.1 hk).1
  obtain ⟨b', o', he, hc⟩ := h (by intro e; have := pgs_len ps; rw [e] at this; simp at this; omega)
  cases he
  have hg : ∀ j u, p.vs[j]? = some u → j < 5 → w.cell? ⟨b, o + (k * 5 + j), none⟩ = some u := fun j u hj hl => hc (k * 5 + j) u (by rw [pgs, flat_get _ 5 (fun _ => rfl) ps k j p hk hl]; exact hj)
  exact ⟨hg 0 _ rfl (by omega), hg 1 _ rfl (by omega), hg 2 _ rfl (by omega), hg 3 _ rfl (by omega), hg 4 _ rfl (by omega)⟩
structure RBks (w : World) (A : Option Addr) (f : List Bk) (hs : List (Option Addr × Nat)) : Prop where
  len : hs.length = f.length
  row : RRow w A (hdrs f hs)
  pg : ∀ (i : Nat) (b : Bk) (x : Option Addr × Nat), f[i]? = some b → hs[i]? = some x → RRow w x.1 (pgs b.pages)
theorem RBks.below {w w' : World} {A : Option Addr} {f : List Bk} {hs : List (Option Addr × Nat)} {B : Nat} (h : RBks w A f hs) (hb : Below B w w') (hB : w.heap.size ≤ B) : RBks w' A f hs :=
  ⟨h.len, h.row.below hb hB, fun i b x h1 h2 => (h.pg i b x h1 h2).below hb hB⟩
theorem RBks.addr {w : World} {A : Option Addr} {f : List Bk} {hs : List (Option Addr × Nat)} (h : RBks w A f hs) (hn : f ≠ []) : ∃ b o, A = some ⟨b, o, none⟩ :=
  h.row.addr (by
    intro e
    have hl := hdrs_len f hs h.len
    rw [e] at hl
    exact hn (List.eq_nil_of_length_eq_zero (by simp at hl; omega)))
theorem RBks.at_ {w : World} {g o i : Nat} {f : List Bk} {hs : List (Option Addr × Nat)} {b : Bk} (h : RBks w (some ⟨g, o, none⟩) f hs) (hi : f[i]? = some b) :
    ∃ x, hs[i]? = some x ∧ w.cell? ⟨g, o + i * 2, none⟩ = some (.slice x.1 b.pages.length x.2) ∧ w.cell? ⟨g, o + i * 2 + 1, none⟩ = some (.int .i64 b.worn) ∧ RRow w x.1 (pgs b.pages) := by
  have hlt := (List.getElem?_eq_some_iff.1 hi).1
  obtain ⟨x, hx⟩ := get_some (l := hs) (k := i) (by rw [h.len]; exact hlt)
  obtain ⟨g1, g2⟩ := hdrs_get f hs i b x hi hx
  obtain ⟨b', o', he, hc⟩ := h.row (by intro e; rw [e] at g1; simp at g1)
  cases he
  exact ⟨x, hx, hc _ _ g1, hc _ _ g2, h.pg i b x hi hx⟩
end Go.Proofs.Ytbekihiiildgmaa
namespace Go.Proofs.Ytbekihiiildgmaa
set_option linter.unusedVariables false
set_option linter.unusedSimpArgs false
open Go.RowKit Go.Maps
set_option maxHeartbeats 400000
def bytes (bs : List Nat) : List Value := bs.map fun (b : Nat) => Value.int .u8 (b : Int)
/-- a reader in block R, above B, of a code that lies below B; its place is not above m -/
def Rd (w : World) (B R m : Nat) : Prop :=
  ∃ (A : Option Addr) (bs : List Nat) (c p : Nat), w.cell? ⟨R, 0, none⟩ = some (.slice A bs.length c) ∧ w.cell? ⟨R, 1, none⟩ = some (.int .i64 p) ∧ w.frozen? ⟨R, 1, none⟩ = false ∧ p ≤ m ∧ bs.length ≤ 2000 ∧ (∀ b ∈ bs, b < 256) ∧
    RRow w A (bytes bs) ∧ (bs ≠ [] → ∀ b, blk A b → b < B) ∧ B ≤ R
theorem Rd.lt {w : World} {B R m : Nat} (h : Rd w B R m) : R < w.heap.size := by obtain ⟨A, bs, c, p, h1, _⟩ := h; exact lt_of_cell h1
theorem Rd.mono {w : World} {B R m n : Nat} (h : Rd w B R m) (hm : m ≤ n) : Rd w B R n := by
  obtain ⟨A, bs, c, p, h1, h2, h3, h4, h5⟩ := h
  exact ⟨A, bs, c, p, h1, h2, h3, by omega, h5⟩
theorem bytes_ne {bs : List Nat} (h : bytes bs ≠ []) : bs ≠ [] := fun e => h (by rw [e]; rfl)
theorem RRow.keep {w w' : World} {A : Option Addr} {vs : List Value} (h : RRow w A vs) (hk : vs ≠ [] → ∀ b, blk A b → b < w.heap.size → w'.heap[b]? = w.heap[b]?) : RRow w' A vs := fun hn => by
  replace hk := hk hn
  obtain ⟨b, o, rfl, hc⟩ := h hn
  refine ⟨b, o, rfl, fun j u hj => ?_⟩
  have h1 := hc j u hj
  exact (World.cell?_of_block (a := ⟨b, o + j, none⟩) (hk b (blk_some.2 rfl) (lt_of_cell h1))).trans h1
/-- what leaves R's block and the blocks below B as they are leaves the reader -/
theorem Rd.keep {w w' : World} {B R m : Nat} (h : Rd w B R m) (hk : ∀ b, b = R ∨ b < B → b < w.heap.size → w'.heap[b]? = w.heap[b]?) : Rd w' B R m := by
  obtain ⟨A, bs, c, p, h1, h2, h3, h4, h5, h6, h7, h8, h9⟩ := h
  have hR := hk R (.inl rfl) (lt_of_cell h1)
  exact ⟨A, bs, c, p, (World.cell?_of_block (a := ⟨R, 0, none⟩) hR).trans h1, (World.cell?_of_block (a := ⟨R, 1, none⟩) hR).trans h2, (World.frozen?_of_block (a := ⟨R, 1, none⟩) hR).trans h3, h4, h5, h6, h7.keep fun hn b hb hl => hk b (.inr (h8 (bytes_ne hn) b hb)) hl, h8, h9⟩
theorem Rd.agr {w w' : World} {B R m : Nat} {S : Nat → Prop} (h : Rd w B R m) (ha : Agr S w w') (h1 : ¬ S R) (h2 : ∀ b, b < B → ¬ S b) : Rd w' B R m :=
  h.keep fun b hb hl => ha.block b hl (by rcases hb with rfl | hb; exact h1; exact h2 b hb)
theorem Rd.below {w w' : World} {B R m C : Nat} (h : Rd w B R m) (hb : Below C w w') (hC : w.heap.size ≤ C) : Rd w' B R m :=
  h.keep fun b _ hl => hb.block b (by omega)
theorem Rd.alloc {w : World} {B R m : Nat} (h : Rd w B R m) (o : Obj) : Rd (w.alloc o) B R m := h.below (C := w.heap.size) ((Below.refl _ _).alloc (Nat.le_refl _) _) (Nat.le_refl _)
theorem Rd.drew {w : World} {B R m : Nat} (h : Rd w B R m) : Rd w.drew B R m := h.keep fun _ _ _ => rfl
end Go.Proofs.Ytbekihiiildgmaa
