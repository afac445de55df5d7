/- Walks: what the reference finds in a block and in a flash. Walks: what the reference finds in a flash. -/
import Derived.Test.YtfkjhnfbajflaaaC2
import Derived.BigQuiet
namespace Go.Proofs.Ytfkjhnfbajflaaa
set_option linter.unusedVariables false
set_option linter.unusedSimpArgs false
open Go.RowKit Go.Maps
set_option maxHeartbeats 400000
theorem spec_l2Clean (b : Bk) (A : Option Addr) (c : Nat) (w : World) (hl : b.pages.length < 1000000000000) (hR : Row w A (pgs b.pages)) :
    Calls Try.prog 48 #[.agg #[.slice A b.pages.length c, .int .i64 b.worn]] w fun e w' => e = .returned (.int .i64 (clean b)) ∧ Below w.heap.size w w' := by
  obtain ⟨ps, n⟩ := b
  dsimp only at *
  have hT : Hid ((clean ⟨ps, n⟩ : Int) = 0 + (ps.drop 0).countP isClean) := by unfold Hid clean; simp
  go_enter Try.func48, Try.ntmps48
  go_wp2
  go_loopw [3, 4] (fun q i wr => ∃ (k m : Nat), k ≤ ps.length ∧ i = .int .i64 k ∧ q = .int .i64 m ∧ m ≤ k ∧ wr = w.alloc (.cells #[.slice A ps.length c, .int .i64 n] 53) ∧ Hid ((clean ⟨ps, n⟩ : Int) = m + (ps.drop k).countP isClean)) (fun _ i _ => ps.length - (intOf i).toNat)
  case atStart => exact ⟨0, 0, by omega, rfl, rfl, by omega, rfl, hT⟩
  case round =>
    clear hT
    obtain ⟨k, m, hk, rfl, rfl, hm, rfl, hT⟩ := hrel
    by_cases hlt : k < ps.length
    · obtain ⟨p, hp⟩ := get_some hlt
      obtain ⟨bk, o, rfl⟩ := hR.addr (pgs_ne (by rintro rfl; simp at hlt))
      obtain ⟨c0, _⟩ := (hR.alloc (.cells #[.slice (some ⟨bk, o, none⟩) ps.length c, .int .i64 n] 53)).pg hp
      have hd := Lib.hid (drop_cons hp)
      have hk1 : (k : Int) < ps.length := by omega
      clear hp
      by_cases h0 : p.state = 0
      · have hi : Hid (isClean p = true) := by unfold Hid isClean; simp [h0]
        rw [h0] at c0
        clear h0
        go_wp2
        go_roundw
        case rel => exact ⟨k + 1, m + 1, by omega, by go_num, by go_num, by omega, by trivial, by rw [Hid, hT.out, hd.out, List.countP_cons, hi.out]; simp; omega⟩
        case measure => simp [intOf]; omega
      · have hi : Hid (isClean p = false) := by unfold Hid isClean; simp [h0]
        go_wp2
        go_roundw
        case rel => exact ⟨k + 1, m, by omega, by go_num, rfl, by omega, by trivial, by rw [Hid, hT.out, hd.out, List.countP_cons, hi.out]; simp⟩
        case measure => simp [intOf]; omega
    · obtain rfl : k = ps.length := by omega
      go_wp2
      go_ret
      exact ⟨ret_int (by rw [hT.out, List.drop_of_length_le (Nat.le_refl _)]; simp), by (repeat (first | (with_reducible exact Below.refl _ _) | (with_reducible assumption) | (refine Below.setCell ?_ (by first | omega | exact hB.size | exact hb.size | (have h := hB.size; simp; omega) | (have h := hb.size; simp; omega) | (simp; omega) | simp) _) | (refine Below.alloc ?_ (by first | omega | exact hB.size | exact hb.size | (have h := hB.size; simp; omega) | (have h := hb.size; simp; omega) | (simp; omega) | simp) _) | (refine Below.drew ?_)))⟩
theorem spec_l3Most (b : Bk) (A : Option Addr) (c : Nat) (w : World) (hl : b.pages.length < 1000000000000) (hR : Row w A (pgs b.pages)) :
    Calls Try.prog 46 #[.agg #[.slice A b.pages.length c, .int .i64 b.worn]] w fun e w' => e = .returned (.int .i64 (most b)) ∧ Below w.heap.size w w' := by
  obtain ⟨ps, n⟩ := b
  dsimp only at *
  have hT : Hid (most ⟨ps, n⟩ = mostPs 0 (ps.drop 0)) := rfl
  go_enter Try.func46, Try.ntmps46
  go_wp2
  go_loopw [3, 4] (fun q i wr => ∃ (k : Nat) (m : Int), k ≤ ps.length ∧ i = .int .i64 k ∧ q = .int .i64 m ∧ wr = w.alloc (.cells #[.slice A ps.length c, .int .i64 n] 53) ∧ Hid (most ⟨ps, n⟩ = mostPs m (ps.drop k))) (fun _ i _ => ps.length - (intOf i).toNat)
  case atStart => exact ⟨0, 0, by omega, rfl, rfl, rfl, hT⟩
  case round =>
    clear hT
    obtain ⟨k, m, hk, rfl, rfl, rfl, hT⟩ := hrel
    by_cases hlt : k < ps.length
    · obtain ⟨p, hp⟩ := get_some hlt
      obtain ⟨bk, o, rfl⟩ := hR.addr (pgs_ne (by rintro rfl; simp at hlt))
      obtain ⟨c0, c1, c2, c3, c4⟩ := (hR.alloc (.cells #[.slice (some ⟨bk, o, none⟩) ps.length c, .int .i64 n] 53)).pg hp
      have hd := Lib.hid (drop_cons hp)
      have hk1 : (k : Int) < ps.length := by omega
      clear hp
      go_wp2
      go_roundw
      case rel => exact ⟨k + 1, max m p.rc.seq, by omega, by go_num, by congr 1; split <;> omega, by trivial, by rw [Hid, hT.out, hd.out]; rfl⟩
      case measure => simp [intOf]; omega
    · obtain rfl : k = ps.length := by omega
      go_wp2
      go_ret
      exact ⟨ret_int (by rw [hT.out, List.drop_of_length_le (Nat.le_refl _)]; rfl), by (repeat (first | (with_reducible exact Below.refl _ _) | (with_reducible assumption) | (refine Below.setCell ?_ (by first | omega | exact hB.size | exact hb.size | (have h := hB.size; simp; omega) | (have h := hb.size; simp; omega) | (simp; omega) | simp) _) | (refine Below.alloc ?_ (by first | omega | exact hB.size | exact hb.size | (have h := hB.size; simp; omega) | (have h := hb.size; simp; omega) | (simp; omega) | simp) _) | (refine Below.drew ?_)))⟩
theorem spec_l3Least (b : Bk) (A : Option Addr) (c : Nat) (w : World) (hl : b.pages.length < 1000000000000) (hR : Row w A (pgs b.pages)) :
    Calls Try.prog 47 #[.agg #[.slice A b.pages.length c, .int .i64 b.worn]] w fun e w' => e = .returned (.int .i64 (least b)) ∧ Below w.heap.size w w' := by
  obtain ⟨ps, n⟩ := b
  dsimp only at *
  have hT : Hid (least ⟨ps, n⟩ = (ps.drop 0).foldl leastStep 0) := rfl
  go_enter Try.func47, Try.ntmps47
  go_wp2
  go_loopw [3, 4] (fun q i wr => ∃ (k : Nat) (m : Int), k ≤ ps.length ∧ i = .int .i64 k ∧ q = .int .i64 m ∧ wr = w.alloc (.cells #[.slice A ps.length c, .int .i64 n] 53) ∧ Hid (least ⟨ps, n⟩ = (ps.drop k).foldl leastStep m)) (fun _ i _ => ps.length - (intOf i).toNat)
  case atStart => exact ⟨0, 0, by omega, rfl, rfl, rfl, hT⟩
  case round =>
    clear hT
    obtain ⟨k, m, hk, rfl, rfl, rfl, hT⟩ := hrel
    by_cases hlt : k < ps.length
    · obtain ⟨p, hp⟩ := get_some hlt
      obtain ⟨bk, o, rfl⟩ := hR.addr (pgs_ne (by rintro rfl; simp at hlt))
      obtain ⟨c0, c1, c2, c3, c4⟩ := (hR.alloc (.cells #[.slice (some ⟨bk, o, none⟩) ps.length c, .int .i64 n] 53)).pg hp
      have hd := Lib.hid (drop_cons hp)
      have hk1 : (k : Int) < ps.length := by omega
      clear hp
      have hle : Hid (least ⟨ps, n⟩ = (ps.drop (k + 1)).foldl leastStep (leastStep m p)) := by rw [Hid, hT.out, hd.out]; rfl
      by_cases h1 : 0 < p.rc.seq
      · by_cases h2 : m = 0
        · subst h2
          have hi : Hid (leastStep 0 p = p.rc.seq) := by unfold Hid leastStep; rw [if_pos ⟨h1, .inl rfl⟩]
          go_wp2
          go_roundw
          case rel => exact ⟨k + 1, p.rc.seq, by omega, by go_num, rfl, by trivial, by rw [← hi.out]; exact hle⟩
          case measure => simp [intOf]; omega
        · have hm0 : (m == 0) = false := by simp [h2]
          by_cases h3 : p.rc.seq < m
          · have hi : Hid (leastStep m p = p.rc.seq) := by unfold Hid leastStep; rw [if_pos ⟨h1, .inr h3⟩]
            go_wp2
            go_roundw
            case rel => exact ⟨k + 1, p.rc.seq, by omega, by go_num, rfl, by trivial, by rw [← hi.out]; exact hle⟩
            case measure => simp [intOf]; omega
          · have hi : Hid (leastStep m p = m) := by unfold Hid leastStep; rw [if_neg (by omega)]
            go_wp2
            go_roundw
            case rel => exact ⟨k + 1, m, by omega, by go_num, rfl, by trivial, by rw [← hi.out]; exact hle⟩
            case measure => simp [intOf]; omega
      · have hi : Hid (leastStep m p = m) := by unfold Hid leastStep; rw [if_neg (by omega)]
        go_wp2
        go_roundw
        case rel => exact ⟨k + 1, m, by omega, by go_num, rfl, by trivial, by rw [← hi.out]; exact hle⟩
        case measure => simp [intOf]; omega
    · obtain rfl : k = ps.length := by omega
      go_wp2
      go_ret
      exact ⟨ret_int (by rw [hT.out, List.drop_of_length_le (Nat.le_refl _)]; rfl), by (repeat (first | (with_reducible exact Below.refl _ _) | (with_reducible assumption) | (refine Below.setCell ?_ (by first | omega | exact hB.size | exact hb.size | (have h := hB.size; simp; omega) | (have h := hb.size; simp; omega) | (simp; omega) | simp) _) | (refine Below.alloc ?_ (by first | omega | exact hB.size | exact hb.size | (have h := hB.size; simp; omega) | (have h := hb.size; simp; omega) | (simp; omega) | simp) _) | (refine Below.drew ?_)))⟩
end Go.Proofs.Ytfkjhnfbajflaaa
namespace Go.Proofs.Ytfkjhnfbajflaaa
set_option linter.unusedVariables false
set_option linter.unusedSimpArgs false
open Go.RowKit Go.Maps
set_option maxHeartbeats 400000
def bkHas (s : Int) (b : Bk) : Bool := b.pages.any (hasSeq s)
theorem spec_l2Seq (f : List Bk) (s : Int) (A : Option Addr) (c : Nat) (w : World) (hl : f.length < 1000000000000) (hp : ∀ b ∈ f, b.pages.length < 1000000000000) (hF : Fl w A f) :
    Calls Try.prog 85 #[.slice A f.length c, .int .i64 s] w fun e w' => e = .returned (.bool (seqIn f s)) ∧ w = w' := by
  obtain ⟨hs, hBk⟩ := hF
  have HP := Lib.hid hp
  have hT : Hid (seqIn f s = (f.drop 0).any (bkHas s)) := rfl
  clear hp
  go_enter Try.func85, Try.ntmps85
  go_wp2
  go_loop [5] (fun i => ∃ (k : Nat), k ≤ f.length ∧ i = .int .i64 k ∧ Hid (seqIn f s = (f.drop k).any (bkHas s))) (fun i => f.length - (intOf i).toNat)
  case atStart => exact ⟨0, by omega, rfl, hT⟩
  case round =>
    clear hT
    obtain ⟨k, hk, rfl, hT⟩ := hrel
    by_cases hlt : k < f.length
    · obtain ⟨B, hB⟩ := get_some hlt
      obtain ⟨g, o, rfl⟩ := hBk.addr (by rintro rfl; simp at hlt)
      obtain ⟨⟨Ap, cp⟩, _, z0, _, _, _, hR, _⟩ := hBk.at_ hB
      have hd := Lib.hid (drop_cons hB)
      have hpl := HP.out B (List.mem_of_getElem? hB)
      have hk1 : (k : Int) < f.length := by omega
      obtain ⟨ps, n⟩ := B
      dsimp only at *
      have hT0 : Hid (seqIn f s = ((ps.drop 0).any (hasSeq s) || (f.drop (k + 1)).any (bkHas s))) := by rw [Hid, hT.out, hd.out]; rfl
      clear hB hT hd
      go_wp2
      go_loop [6] (fun j => ∃ (m : Nat), m ≤ ps.length ∧ j = .int .i64 m ∧ Hid (seqIn f s = ((ps.drop m).any (hasSeq s) || (f.drop (k + 1)).any (bkHas s)))) (fun j => ps.length - (intOf j).toNat)
      case atStart => exact ⟨0, by omega, rfl, hT0⟩
      case round =>
        clear hT0
        obtain ⟨m, hm, rfl, hT⟩ := hrel
        by_cases hltm : m < ps.length
        · obtain ⟨p, hq⟩ := get_some hltm
          obtain ⟨pb, po, rfl⟩ := hR.addr (pgs_ne (by rintro rfl; simp at hltm))
          obtain ⟨c0, c1, c2, c3, c4⟩ := hR.pg hq
          have hd := Lib.hid (drop_cons hq)
          have hm1 : (m : Int) < ps.length := by omega
          have hT1 : Hid (seqIn f s = (hasSeq s p || ((ps.drop (m + 1)).any (hasSeq s) || (f.drop (k + 1)).any (bkHas s)))) := by rw [Hid, hT.out, hd.out, List.any_cons, Bool.or_assoc]
          clear hq hT hd
          by_cases h1 : p.state = 1
          · by_cases h2 : p.rc.seq = s
            · have hi : Hid (hasSeq s p = true) := by unfold Hid hasSeq; simp [h1, h2]
              rw [h1] at c0
              rw [h2] at c2
              clear h1 h2
              go_wp2
              go_ret
              exact ⟨ret_bool (by rw [hT1.out, hi.out]; rfl), rfl⟩
            · have hi : Hid (hasSeq s p = false) := by unfold Hid hasSeq; simp [h1, h2]
              rw [h1] at c0
              clear h1
              go_wp2
              go_round
              case rel => exact ⟨m + 1, by omega, by go_num, by rw [Hid, hT1.out, hi.out]; rfl⟩
              case measure => simp [intOf]; omega
          · have hi : Hid (hasSeq s p = false) := by unfold Hid hasSeq; simp [h1]
            go_wp2
            go_round
            case rel => exact ⟨m + 1, by omega, by go_num, by rw [Hid, hT1.out, hi.out]; rfl⟩
            case measure => simp [intOf]; omega
        · obtain rfl : m = ps.length := by omega
          go_wp2
          go_round
          case rel => exact ⟨k + 1, by omega, by go_num, by rw [Hid, hT.out, List.drop_of_length_le (Nat.le_refl _)]; rfl⟩
          case measure => simp [intOf]; omega
    · obtain rfl : k = f.length := by omega
      go_wp2
      go_ret
      exact ⟨ret_bool (by rw [hT.out, List.drop_of_length_le (Nat.le_refl _)]; rfl), rfl⟩
theorem spec_l3Next (f : List Bk) (A : Option Addr) (c : Nat) (w : World) (hl : f.length < 1000000000000) (hp : ∀ b ∈ f, b.pages.length < 1000000000000) (hn : ∀ b ∈ f, most b < 1000000000000) (hF : Fl w A f) :
    Calls Try.prog 83 #[.slice A f.length c] w fun e w' => e = .returned (.int .i64 (next f)) ∧ Below w.heap.size w w' := by
  have HP := Lib.hid hp
  have HN := Lib.hid hn
  have hT : Hid (topSeq f = (f.drop 0).foldl (fun n b => max n (most b)) 0) := rfl
  clear hp hn
  go_enter Try.func83, Try.ntmps83
  go_wp2
  go_loopw [3, 4] (fun q i wr => ∃ (k : Nat) (m : Int), k ≤ f.length ∧ i = .int .i64 k ∧ q = .int .i64 m ∧ 0 ≤ m ∧ m < 1000000000000 ∧ Below w.heap.size w wr ∧ Hid (topSeq f = (f.drop k).foldl (fun n b => max n (most b)) m)) (fun _ i _ => f.length - (intOf i).toNat)
  case atStart => exact ⟨0, 0, by omega, rfl, rfl, by omega, by omega, Below.refl _ _, hT⟩
  case round =>
    clear hT
    obtain ⟨k, m, hk, rfl, rfl, hm0, hm1, hb, hT⟩ := hrel
    by_cases hlt : k < f.length
    · obtain ⟨B, hB⟩ := get_some hlt
      obtain ⟨hs, hBk⟩ := hF.below hb (Nat.le_refl _)
      obtain ⟨g, o, rfl⟩ := hBk.addr (by rintro rfl; simp at hlt)
      obtain ⟨⟨Ap, cp⟩, _, z0, z1, _, _, hR, _⟩ := hBk.at_ hB
      have hd := Lib.hid (drop_cons hB)
      have hpl := HP.out B (List.mem_of_getElem? hB)
      have hnl := HN.out B (List.mem_of_getElem? hB)
      have hk1 : (k : Int) < f.length := by omega
      clear hB
      go_wp2_with fail
      refine (spec_l3Most B Ap cp _ hpl hR).mono ?_
      rintro e w1 ⟨rfl, hb1⟩
      have hB1 := hb.trans (hb1.mono hb.size)
      have hT1 : Hid (topSeq f = (f.drop (k + 1)).foldl (fun n b => max n (most b)) (max m (most B))) := by rw [Hid, hT.out, hd.out]; rfl
      clear hT hd
      generalize most B = x at *
      go_wp2
      go_roundw
      case rel => exact ⟨k + 1, max m x, by omega, by go_num, by congr 1; split <;> omega, by omega, by omega, hB1, hT1⟩
      case measure => simp [intOf]; omega
    · obtain rfl : k = f.length := by omega
      go_wp2
      go_ret
      exact ⟨ret_int (by unfold next; rw [hT.out, List.drop_of_length_le (Nat.le_refl _)]; rfl), hb⟩
theorem Row.rc {w : World} {b o : Nat} {x : Rc} (h : Row w (some ⟨b, o, none⟩) x.vs) :
    w.cell? ⟨b, o, none⟩ = some (.int .i64 x.kind) ∧ w.cell? ⟨b, o + 1, none⟩ = some (.int .i64 x.seq) ∧ w.cell? ⟨b, o + 2, none⟩ = some (.int .i64 x.addr) ∧ w.cell? ⟨b, o + 3, none⟩ = some (.int .i64 x.val) := by
  obtain ⟨b', o', he, hc⟩ := h (by simp [Rc.vs])
  cases he
  exact ⟨(hc 0 _ rfl).1, (hc 1 _ rfl).1, (hc 2 _ rfl).1, (hc 3 _ rfl).1⟩
theorem Row.rcf {w : World} {b o : Nat} {x : Rc} (h : Row w (some ⟨b, o, none⟩) x.vs) :
    w.frozen? ⟨b, o, none⟩ = false ∧ w.frozen? ⟨b, o + 1, none⟩ = false ∧ w.frozen? ⟨b, o + 2, none⟩ = false ∧ w.frozen? ⟨b, o + 3, none⟩ = false := by
  obtain ⟨b', o', he, hc⟩ := h (by simp [Rc.vs])
  cases he
  exact ⟨(hc 0 _ rfl).2, (hc 1 _ rfl).2, (hc 2 _ rfl).2, (hc 3 _ rfl).2⟩
theorem wrote_rec {w : World} {b o : Nat} {x : Rc} (h : Row w (some ⟨b, o, none⟩) x.vs) (y : Rc) :
    Wrote w ((((w.setCell ⟨b, o, none⟩ (.int .i64 y.kind)).setCell ⟨b, o + 1, none⟩ (.int .i64 y.seq)).setCell ⟨b, o + 2, none⟩ (.int .i64 y.addr)).setCell ⟨b, o + 3, none⟩ (.int .i64 y.val)) b o y.vs := by
  refine wrote_setRow b y.vs o w fun j hj => ?_
  obtain ⟨c0, c1, c2, c3⟩ := h.rc
  match j, hj with
  | 0, _ => exact ⟨_, c0⟩
  | 1, _ => exact ⟨_, c1⟩
  | 2, _ => exact ⟨_, c2⟩
  | 3, _ => exact ⟨_, c3⟩
theorem Wrote.rec_ {w w' : World} {b o : Nat} {x y : Rc} (hw : Wrote w w' b o y.vs) (h : Row w (some ⟨b, o, none⟩) x.vs) : Row w' (some ⟨b, o, none⟩) y.vs := fun _ => by
  obtain ⟨b', o', he, hc⟩ := h (by simp [Rc.vs])
  cases he
  refine ⟨b, o, rfl, fun j u hj => ⟨hw.new_ j u hj, (hw.frozen _).trans ?_⟩⟩
  have hl : j < x.vs.length := (List.getElem?_eq_some_iff.1 hj).1
  exact (hc j _ (List.getElem?_eq_getElem hl)).2
theorem spec_l3Last (f : List Bk) (addr : Int) (A : Option Addr) (c : Nat) (w : World) (hl : f.length < 1000000000000) (hp : ∀ b ∈ f, b.pages.length < 1000000000000) (hF : Fl w A f) :
    Calls Try.prog 55 #[.slice A f.length c, .int .i64 addr] w fun e w' => e = .returned (.tuple #[.agg #[.int .i64 (last f addr).kind, .int .i64 (last f addr).seq, .int .i64 (last f addr).addr, .int .i64 (last f addr).val], .bool (decide (0 < (last f addr).seq))]) ∧ Below w.heap.size w w' := by
  have HP := Lib.hid hp
  have hT : Hid (last f addr = (f.drop 0).foldl (fun o b => lastPs addr o b.pages) rc0) := rfl
  clear hp
  go_enter Try.func55, Try.ntmps55
  go_wp2
  go_loopw [7] (fun i wr => ∃ (k : Nat) (x : Rc), k ≤ f.length ∧ i = .int .i64 k ∧ Below w.heap.size w wr ∧ w.heap.size + 1 < wr.heap.size ∧ Row wr (some ⟨w.heap.size + 1, 0, none⟩) x.vs ∧ Row wr (some ⟨w.heap.size, 0, none⟩) rc0.vs ∧ Hid (last f addr = (f.drop k).foldl (fun o b => lastPs addr o b.pages) x)) (fun i _ => f.length - (intOf i).toNat)
  case atStart =>
    refine ⟨0, rc0, by omega, rfl, by (repeat (first | (with_reducible exact Below.refl _ _) | (with_reducible assumption) | (refine Below.setCell ?_ (by first | omega | exact hB.size | exact hb.size | (have h := hB.size; simp; omega) | (have h := hb.size; simp; omega) | (simp; omega) | simp) _) | (refine Below.alloc ?_ (by first | omega | exact hB.size | exact hb.size | (have h := hB.size; simp; omega) | (have h := hb.size; simp; omega) | (simp; omega) | simp) _) | (refine Below.drew ?_))), by simp, ?_, ?_, hT⟩
    · have := Row.new (w.alloc (.cells #[.int .i64 0, .int .i64 0, .int .i64 0, .int .i64 0] 35)) #[.int .i64 0, .int .i64 0, .int .i64 0, .int .i64 0] 35
      simp only [World.size_alloc] at this
      exact this
    · exact (Row.new w #[.int .i64 0, .int .i64 0, .int .i64 0, .int .i64 0] 35).alloc _
  case round =>
    clear hT
    obtain ⟨k, x, hk, rfl, hb, hsz, hx, hz, hT⟩ := hrel
    by_cases hlt : k < f.length
    · obtain ⟨B, hB⟩ := get_some hlt
      have hF1 := hF.below hb (Nat.le_refl _)
      obtain ⟨hs, hBk⟩ := hF1
      obtain ⟨g, o, rfl⟩ := hBk.addr (by rintro rfl; simp at hlt)
      obtain ⟨⟨Ap, cp⟩, _, z0, _, _, _, hR, _⟩ := hBk.at_ hB
      have hd := Lib.hid (drop_cons hB)
      have hpl := HP.out B (List.mem_of_getElem? hB)
      have hk1 : (k : Int) < f.length := by omega
      have HB := Lib.hid hB
      obtain ⟨ps, n⟩ := B
      dsimp only at *
      have hT0 : Hid (last f addr = (f.drop (k + 1)).foldl (fun o b => lastPs addr o b.pages) (lastPs addr x (ps.drop 0))) := by rw [Hid, hT.out, hd.out]; rfl
      clear hB hT hd
      go_wp2
      go_loopw [8] (fun j wr => ∃ (m : Nat) (x : Rc), m ≤ ps.length ∧ j = .int .i64 m ∧ Below w.heap.size w wr ∧ w.heap.size + 1 < wr.heap.size ∧ Row wr (some ⟨w.heap.size + 1, 0, none⟩) x.vs ∧ Row wr (some ⟨w.heap.size, 0, none⟩) rc0.vs ∧ Hid (last f addr = (f.drop (k + 1)).foldl (fun o b => lastPs addr o b.pages) (lastPs addr x (ps.drop m)))) (fun j _ => ps.length - (intOf j).toNat)
      case atStart => exact ⟨0, x, by omega, rfl, hb, hsz, hx, hz, hT0⟩
      case round =>
        clear hT0 z0 hR hBk hx hz hb hsz
        obtain ⟨m, x, hm, rfl, hb, hsz, hx, hz, hT⟩ := hrel
        obtain ⟨hs, hBk⟩ := hF.below hb (Nat.le_refl _)
        obtain ⟨⟨Ap, cp⟩, _, z0, _, _, _, hR, _⟩ := hBk.at_ HB.out
        dsimp only at z0 hR
        by_cases hltm : m < ps.length
        · obtain ⟨p, hq⟩ := get_some hltm
          obtain ⟨pb, po, rfl⟩ := hR.addr (pgs_ne (by rintro rfl; simp at hltm))
          obtain ⟨c0, c1, c2, c3, c4⟩ := hR.pg hq
          obtain ⟨o0, o1, o2, o3⟩ := hx.rc
          obtain ⟨r0, r1, r2, r3⟩ := hx.rcf
          have hd := Lib.hid (drop_cons hq)
          have hm1 : (m : Int) < ps.length := by omega
          have hT1 : Hid (last f addr = (f.drop (k + 1)).foldl (fun o b => lastPs addr o b.pages) (lastPs addr (lastStep addr x p) (ps.drop (m + 1)))) := by rw [Hid, hT.out, hd.out]; rfl
          have hx1 := hx.alloc (.cells #[.int .i64 p.state, .int .i64 p.rc.kind, .int .i64 p.rc.seq, .int .i64 p.rc.addr, .int .i64 p.rc.val] 59)
          have hz1 := hz.alloc (.cells #[.int .i64 p.state, .int .i64 p.rc.kind, .int .i64 p.rc.seq, .int .i64 p.rc.addr, .int .i64 p.rc.val] 59)
          clear hq hT hd
          by_cases h1 : p.state = 1
          · by_cases h2 : p.rc.addr = addr
            · by_cases h3 : x.seq < p.rc.seq
              · have hi : Hid (lastStep addr x p = p.rc) := by unfold Hid lastStep; rw [if_pos ⟨h1, h2, h3⟩]
                subst h2
                have hW := wrote_rec hx p.rc
                have hx2 := (hW.rec_ hx).alloc (.cells #[.int .i64 1, .int .i64 p.rc.kind, .int .i64 p.rc.seq, .int .i64 p.rc.addr, .int .i64 p.rc.val] 59)
                have hz2 := (hW.far hz (by rw [blk_some]; omega)).alloc (.cells #[.int .i64 1, .int .i64 p.rc.kind, .int .i64 p.rc.seq, .int .i64 p.rc.addr, .int .i64 p.rc.val] 59)
                have hs2 := hW.size
                simp only [Nat.zero_add] at hx2 hz2 o1 o2 o3 r1 r2 r3 hs2
                rw [h1] at c0
                clear h1 hx1 hz1 hW
                go_wp2
                go_roundw
                case rel => exact ⟨m + 1, p.rc, by omega, by go_num, by (repeat (first | (with_reducible exact Below.refl _ _) | (with_reducible assumption) | (refine Below.setCell ?_ (by first | omega | exact hB.size | exact hb.size | (have h := hB.size; simp; omega) | (have h := hb.size; simp; omega) | (simp; omega) | simp) _) | (refine Below.alloc ?_ (by first | omega | exact hB.size | exact hb.size | (have h := hB.size; simp; omega) | (have h := hb.size; simp; omega) | (simp; omega) | simp) _) | (refine Below.drew ?_))), by simp; omega, hx2, hz2, by have h := hT1; rw [hi.out] at h; exact h⟩
                case measure => simp [intOf]; omega
              · have hi : Hid (lastStep addr x p = x) := by unfold Hid lastStep; rw [if_neg (fun h => h3 h.2.2)]
                simp only [Nat.zero_add] at o1 o2 o3
                subst h2
                rw [h1] at c0 hx1 hz1
                clear h1
                go_wp2
                go_roundw
                case rel => exact ⟨m + 1, x, by omega, by go_num, by (repeat (first | (with_reducible exact Below.refl _ _) | (with_reducible assumption) | (refine Below.setCell ?_ (by first | omega | exact hB.size | exact hb.size | (have h := hB.size; simp; omega) | (have h := hb.size; simp; omega) | (simp; omega) | simp) _) | (refine Below.alloc ?_ (by first | omega | exact hB.size | exact hb.size | (have h := hB.size; simp; omega) | (have h := hb.size; simp; omega) | (simp; omega) | simp) _) | (refine Below.drew ?_))), by simp; omega, hx1, hz1, by have h := hT1; rw [hi.out] at h; exact h⟩
                case measure => simp [intOf]; omega
            · have hi : Hid (lastStep addr x p = x) := by unfold Hid lastStep; rw [if_neg (fun h => h2 h.2.1)]
              rw [h1] at c0 hx1 hz1
              clear h1
              go_wp2
              go_roundw
              case rel => exact ⟨m + 1, x, by omega, by go_num, by (repeat (first | (with_reducible exact Below.refl _ _) | (with_reducible assumption) | (refine Below.setCell ?_ (by first | omega | exact hB.size | exact hb.size | (have h := hB.size; simp; omega) | (have h := hb.size; simp; omega) | (simp; omega) | simp) _) | (refine Below.alloc ?_ (by first | omega | exact hB.size | exact hb.size | (have h := hB.size; simp; omega) | (have h := hb.size; simp; omega) | (simp; omega) | simp) _) | (refine Below.drew ?_))), by simp; omega, hx1, hz1, by have h := hT1; rw [hi.out] at h; exact h⟩
              case measure => simp [intOf]; omega
          · have hi : Hid (lastStep addr x p = x) := by unfold Hid lastStep; rw [if_neg (fun h => h1 h.1)]
            go_wp2
            go_roundw
            case rel => exact ⟨m + 1, x, by omega, by go_num, by (repeat (first | (with_reducible exact Below.refl _ _) | (with_reducible assumption) | (refine Below.setCell ?_ (by first | omega | exact hB.size | exact hb.size | (have h := hB.size; simp; omega) | (have h := hb.size; simp; omega) | (simp; omega) | simp) _) | (refine Below.alloc ?_ (by first | omega | exact hB.size | exact hb.size | (have h := hB.size; simp; omega) | (have h := hb.size; simp; omega) | (simp; omega) | simp) _) | (refine Below.drew ?_))), by simp; omega, hx1, hz1, by have h := hT1; rw [hi.out] at h; exact h⟩
            case measure => simp [intOf]; omega
        · obtain rfl : m = ps.length := by omega
          go_wp2
          go_roundw
          case rel => exact ⟨k + 1, x, by omega, by go_num, hb, hsz, hx, hz, by rw [Hid, hT.out, List.drop_of_length_le (Nat.le_refl _)]; rfl⟩
          case measure => simp [intOf]; omega
    · obtain rfl : k = f.length := by omega
      have hfin : Hid (last f addr = x) := by rw [Hid, hT.out, List.drop_of_length_le (Nat.le_refl _)]; rfl
      obtain ⟨o0, o1, o2, o3⟩ := hx.rc
      obtain ⟨q0, q1, q2, q3⟩ := hz.rc
      obtain ⟨r0, r1, r2, r3⟩ := hz.rcf
      simp only [Nat.zero_add] at o1 o2 o3 r1 r2 r3 q1 q2 q3
      go_wp2
      go_region
      go_wp2
      refine bodyPost_ret (v := .tuple #[.agg #[.int .i64 x.kind, .int .i64 x.seq, .int .i64 x.addr, .int .i64 x.val], .bool (decide (0 < x.seq))]) (by simp [results, Try.results55, go_sem, q0, q1, q2, q3]) rfl ⟨by rw [hfin.out], by (repeat (first | (with_reducible exact Below.refl _ _) | (with_reducible assumption) | (refine Below.setCell ?_ (by first | omega | exact hB.size | exact hb.size | (have h := hB.size; simp; omega) | (have h := hb.size; simp; omega) | (simp; omega) | simp) _) | (refine Below.alloc ?_ (by first | omega | exact hB.size | exact hb.size | (have h := hB.size; simp; omega) | (have h := hb.size; simp; omega) | (simp; omega) | simp) _) | (refine Below.drew ?_)))⟩
theorem spec_l3Live (f : List Bk) (p : Pg) (A : Option Addr) (c : Nat) (w : World) (hl : f.length < 1000000000000) (hp : ∀ b ∈ f, b.pages.length < 1000000000000) (hF : Fl w A f) :
    Calls Try.prog 87 #[.slice A f.length c, .agg #[.int .i64 p.state, .int .i64 p.rc.kind, .int .i64 p.rc.seq, .int .i64 p.rc.addr, .int .i64 p.rc.val]] w fun e w' => e = .returned (.bool (live f p)) ∧ Below w.heap.size w w' := by
  by_cases h1 : p.state = 1
  · have hfin : Hid (live f p = decide (last f p.rc.addr = p.rc)) := by unfold Hid live; simp [h1]
    rw [h1]
    clear h1
    go_enter Try.func87, Try.ntmps87
    go_wp2_with fail
    refine (spec_l3Last f p.rc.addr A c _ hl hp (hF.alloc _)).mono ?_
    rintro e w1 ⟨rfl, hb⟩
    have hB : Below w.heap.size w w1 := Below.trans (by (repeat (first | (with_reducible exact Below.refl _ _) | (with_reducible assumption) | (refine Below.setCell ?_ (by first | omega | exact hB.size | exact hb.size | (have h := hB.size; simp; omega) | (have h := hb.size; simp; omega) | (simp; omega) | simp) _) | (refine Below.alloc ?_ (by first | omega | exact hB.size | exact hb.size | (have h := hB.size; simp; omega) | (have h := hb.size; simp; omega) | (simp; omega) | simp) _) | (refine Below.drew ?_)))) (hb.mono (by simp))
    obtain ⟨hc, hf⟩ := bcell hb
    have hz : w.heap.size < w1.heap.size := by have := hb.size; simp at this; omega
    have hle : Hid (decide (last f p.rc.addr = p.rc) = (decide ((last f p.rc.addr).kind = p.rc.kind) && (decide ((last f p.rc.addr).seq = p.rc.seq) && (decide ((last f p.rc.addr).addr = p.rc.addr) && decide ((last f p.rc.addr).val = p.rc.val))))) := by
      unfold Hid
      generalize last f p.rc.addr = x
      obtain ⟨a, b, c, d⟩ := x
      obtain ⟨st, e, g, h, i⟩ := p
      simp [Bool.and_assoc]
    generalize last f p.rc.addr = x at *
    clear hb
    go_wp2
    all_goals go_ret
    all_goals exact ⟨ret_bool (by rw [hfin.out, hle.out]; simp [*]), by (repeat (first | (with_reducible exact Below.refl _ _) | (with_reducible assumption) | (refine Below.setCell ?_ (by first | omega | exact hB.size | exact hb.size | (have h := hB.size; simp; omega) | (have h := hb.size; simp; omega) | (simp; omega) | simp) _) | (refine Below.alloc ?_ (by first | omega | exact hB.size | exact hb.size | (have h := hB.size; simp; omega) | (have h := hb.size; simp; omega) | (simp; omega) | simp) _) | (refine Below.drew ?_)))⟩
  · have hfin : Hid (live f p = false) := by unfold Hid live; simp [h1]
    go_enter Try.func87, Try.ntmps87
    go_wp2
    go_ret
    exact ⟨ret_bool hfin.out.symm, by (repeat (first | (with_reducible exact Below.refl _ _) | (with_reducible assumption) | (refine Below.setCell ?_ (by first | omega | exact hB.size | exact hb.size | (have h := hB.size; simp; omega) | (have h := hb.size; simp; omega) | (simp; omega) | simp) _) | (refine Below.alloc ?_ (by first | omega | exact hB.size | exact hb.size | (have h := hB.size; simp; omega) | (have h := hb.size; simp; omega) | (simp; omega) | simp) _) | (refine Below.drew ?_)))⟩
end Go.Proofs.Ytfkjhnfbajflaaa
