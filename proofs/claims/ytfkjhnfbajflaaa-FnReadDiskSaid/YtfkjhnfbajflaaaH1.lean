/- Walks: the program's own: pages that are free, numbers in use, a record written. -/
import Derived.Test.YtfkjhnfbajflaaaC2
import Derived.Test.YtfkjhnfbajflaaaE2
import Derived.Test.YtfkjhnfbajflaaaG3
import Derived.Test.YtfkjhnfbajflaaaG6
import Derived.Test.YtfkjhnfbajflaaaB
namespace Go.Proofs.Ytfkjhnfbajflaaa
set_option linter.unusedVariables false
set_option linter.unusedSimpArgs false
open Go.RowKit Go.Maps
set_option maxHeartbeats 400000
theorem impl_freePages (b : Bk) (A : Option Addr) (n c : Nat) (w : World) (hn : n = b.pages.length) (hl : b.pages.length < 1000000000000) (hR : Row w A (pgs b.pages)) :
    Calls Try.prog 38 #[.agg #[.slice A n c, .int .i64 b.worn]] w fun e w' => e = .returned (.int .i64 (clean b)) ∧ Below w.heap.size w w' := by
  subst hn
  obtain ⟨ps, n⟩ := b
  dsimp only at *
  have hB0 : Below w.heap.size w (w.alloc (.cells #[.slice A ps.length c, .int .i64 n] 53)) := by (repeat (first | (with_reducible exact Below.refl _ _) | (with_reducible assumption) | (refine Below.setCell ?_ (by first | omega | exact hB.size | exact hb.size | (have h := hB.size; simp; omega) | (have h := hb.size; simp; omega) | (simp; omega) | simp) _) | (refine Below.alloc ?_ (by first | omega | exact hB.size | exact hb.size | (have h := hB.size; simp; omega) | (have h := hb.size; simp; omega) | (simp; omega) | simp) _) | (refine Below.drew ?_)))
  have hT : Hid ((clean ⟨ps, n⟩ : Int) = 0 + (ps.drop 0).countP isClean) := by unfold Hid clean; simp
  go_enter Try.func38, Try.ntmps38
  go_wp2
  go_loopw [3, 9] (fun q i wr => ∃ (k m : Nat), k ≤ ps.length ∧ i = .int .i64 k ∧ q = .int .i64 m ∧ m ≤ k ∧ Below w.heap.size w wr ∧ Hid ((clean ⟨ps, n⟩ : Int) = m + (ps.drop k).countP isClean)) (fun _ i _ => ps.length - (intOf i).toNat)
  case atStart => exact ⟨0, 0, by omega, rfl, rfl, by omega, hB0, hT⟩
  case round =>
    clear hT hB0
    obtain ⟨k, m, hk, rfl, rfl, hm, hB, hT⟩ := hrel
    by_cases hlt : k < ps.length
    · obtain ⟨p, hp⟩ := get_some hlt
      obtain ⟨bk, o, rfl⟩ := hR.addr (pgs_ne (by rintro rfl; simp at hlt))
      obtain ⟨c0, c1, c2, c3, c4⟩ := (hR.below hB (Nat.le_refl _)).pg hp
      have hd := Lib.hid (drop_cons hp)
      have hk1 : (k : Int) < ps.length := by omega
      have hB2 : ∀ o, Below w.heap.size w (wr.alloc o) := fun o => hB.alloc hB.size o
      clear hp
      by_cases h0 : p.state = 0
      · have hi : Hid (isClean p = true) := by unfold Hid isClean; simp [h0]
        rw [h0] at c0
        clear h0
        go_wp2
        go_roundw
        case rel => exact ⟨k + 1, m + 1, by omega, by go_num, by go_num, by omega, hB2 _, by rw [Hid, hT.out, hd.out, List.countP_cons, hi.out]; simp; omega⟩
        case measure => simp [intOf]; omega
      · have hi : Hid (isClean p = false) := by unfold Hid isClean; simp [h0]
        go_wp2
        go_roundw
        case rel => exact ⟨k + 1, m, by omega, by go_num, rfl, by omega, hB2 _, by rw [Hid, hT.out, hd.out, List.countP_cons, hi.out]; simp⟩
        case measure => simp [intOf]; omega
    · obtain rfl : k = ps.length := by omega
      go_wp2
      go_ret
      exact ⟨ret_int (by rw [hT.out, List.drop_of_length_le (Nat.le_refl _)]; simp), hB⟩
set_option maxHeartbeats 2000000 in
theorem impl_seqUsed (f : List Bk) (s : Int) (A : Option Addr) (n c : Nat) (w : World) (hn : n = f.length) (hl : f.length < 1000000000000) (hp : ∀ b ∈ f, b.pages.length < 1000000000000) (hF : Fl w A f) :
    Calls Try.prog 51 #[.slice A n c, .int .i64 s] w fun e w' => e = .returned (.bool (seqIn f s)) ∧ Below w.heap.size w w' := by
  subst hn
  obtain ⟨hs, hBk⟩ := hF
  have HP := Lib.hid hp
  have hT : Hid (seqIn f s = (f.drop 0).any (bkHas s)) := rfl
  clear hp
  go_enter Try.func51, Try.ntmps51
  go_wp2
  go_loopw [11] (fun i wr => ∃ (k : Nat), k ≤ f.length ∧ i = .int .i64 k ∧ Below w.heap.size w wr ∧ Hid (seqIn f s = (f.drop k).any (bkHas s))) (fun i _ => f.length - (intOf i).toNat)
  case atStart => exact ⟨0, by omega, rfl, Below.refl _ _, hT⟩
  case round =>
    clear hT
    obtain ⟨k, hk, rfl, hB, hT⟩ := hrel
    by_cases hlt : k < f.length
    · obtain ⟨B, hBb⟩ := get_some hlt
      obtain ⟨g, o, rfl⟩ := hBk.addr (by rintro rfl; simp at hlt)
      obtain ⟨⟨Ap, cp⟩, _, z0, z1, _, _, hR, _⟩ := (hBk.below hB (Nat.le_refl _)).at_ hBb
      have hd := Lib.hid (drop_cons hBb)
      have hpl := HP.out B (List.mem_of_getElem? hBb)
      have hk1 : (k : Int) < f.length := by omega
      obtain ⟨ps, n⟩ := B
      dsimp only at *
      have hB2 : Below w.heap.size w (wr.alloc (.cells #[.slice Ap ps.length cp, .int .i64 n] 53)) := hB.alloc hB.size _
      have hR2 := hR.alloc (.cells #[.slice Ap ps.length cp, .int .i64 n] 53)
      have hT0 : Hid (seqIn f s = ((ps.drop 0).any (hasSeq s) || (f.drop (k + 1)).any (bkHas s))) := by rw [Hid, hT.out, hd.out]; rfl
      clear hBb hT hd
      go_wp2
      go_loopw [18] (fun j wl => ∃ (m : Nat), m ≤ ps.length ∧ j = .int .i64 m ∧ Below w.heap.size w wl ∧ Row wl Ap (pgs ps) ∧ Hid (seqIn f s = ((ps.drop m).any (hasSeq s) || (f.drop (k + 1)).any (bkHas s)))) (fun j _ => ps.length - (intOf j).toNat)
      case atStart => exact ⟨0, by omega, rfl, hB2, hR2, hT0⟩
      case round =>
        clear hT0 hB2 hR2
        obtain ⟨m, hm, rfl, hBl, hRl, hT⟩ := hrel
        by_cases hltm : m < ps.length
        · obtain ⟨p, hq⟩ := get_some hltm
          obtain ⟨pb, po, rfl⟩ := hRl.addr (pgs_ne (by rintro rfl; simp at hltm))
          obtain ⟨c0, c1, c2, c3, c4⟩ := hRl.pg hq
          have hd := Lib.hid (drop_cons hq)
          have hm1 : (m : Int) < ps.length := by omega
          have hT1 : Hid (seqIn f s = (hasSeq s p || ((ps.drop (m + 1)).any (hasSeq s) || (f.drop (k + 1)).any (bkHas s)))) := by rw [Hid, hT.out, hd.out, List.any_cons, Bool.or_assoc]
          have hB3 := fun (o : Obj) => hBl.alloc hBl.size o
          have hR3 := fun (o : Obj) => hRl.alloc o
          clear hq hT hd
          by_cases h1 : p.state = 1
          · by_cases h2 : p.rc.seq = s
            · have hi : Hid (hasSeq s p = true) := by unfold Hid hasSeq; simp [h1, h2]
              rw [h1] at c0
              rw [h2] at c2
              clear h1 h2
              go_wp2
              go_ret
              exact ⟨ret_bool (by rw [hT1.out, hi.out]; rfl), hB3 _⟩
            · have hi : Hid (hasSeq s p = false) := by unfold Hid hasSeq; simp [h1, h2]
              rw [h1] at c0
              have h2' : (p.rc.seq == s) = false := by simpa using h2
              clear h1
              go_wp2
              go_roundw
              case rel => exact ⟨m + 1, by omega, by go_num, hB3 _, hR3 _, by rw [Hid, hT1.out, hi.out]; rfl⟩
              case measure => simp [intOf]; omega
          · have hi : Hid (hasSeq s p = false) := by unfold Hid hasSeq; simp [h1]
            have h1' : (p.state == 1) = false := by simpa using h1
            go_wp2
            go_roundw
            case rel => exact ⟨m + 1, by omega, by go_num, hB3 _, hR3 _, by rw [Hid, hT1.out, hi.out]; rfl⟩
            case measure => simp [intOf]; omega
        · obtain rfl : m = ps.length := by omega
          go_wp2
          go_roundw
          case rel => exact ⟨k + 1, by omega, by go_num, hBl, by rw [Hid, hT.out, List.drop_of_length_le (Nat.le_refl _)]; rfl⟩
          case measure => simp [intOf]; omega
    · obtain rfl : k = f.length := by omega
      go_wp2
      go_ret
      exact ⟨ret_bool (by rw [hT.out, List.drop_of_length_le (Nat.le_refl _)]; rfl), hB⟩
/-- what FlashWrite answers -/
def flashWrite (f : List Bk) (block : Int) (r : Rc) (torn : Bool) : List Bk × Bool :=
  if flashOk f = false ∨ blockB block = false ∨ recOk r = false then ([], false) else writeR f block.toNat r torn
theorem clean_le4 {b : Bk} (h : b.pages.length = 4) : clean b ≤ 4 := by rw [← h]; exact clean_le b
end Go.Proofs.Ytfkjhnfbajflaaa
