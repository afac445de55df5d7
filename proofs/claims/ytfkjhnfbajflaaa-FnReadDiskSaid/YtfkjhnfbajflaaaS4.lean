/- Walks: the reference's copies. Walks: the reference's new flash, and its wipe. -/
import Derived.Test.YtfkjhnfbajflaaaS
import Derived.Deep.AppendLies
import Derived.Deep.RegionHeld3
import Derived.Test.YtfkjhnfbajflaaaC2
namespace Go.Proofs.Ytfkjhnfbajflaaa
set_option linter.unusedVariables false
set_option linter.unusedSimpArgs false
open Go.RowKit Go.Maps
set_option maxHeartbeats 400000
theorem Try.info3_page : (Try.prog.info? 59).map (fun i => (i.zero, i.size, i.bytes)) = some (some (.agg #[.int .i64 0, .int .i64 0, .int .i64 0, .int .i64 0, .int .i64 0]), 5, 40) := by kernel_rfl
theorem Try.info3_block : (Try.prog.info? 53).map (fun i => (i.zero, i.size, i.bytes)) = some (some (.agg #[.slice none 0 0, .int .i64 0]), 2, 32) := by kernel_rfl
/-- a flash that is being built by append: k blocks so far -/
structure Bld (B : Nat) (w : World) (g k c : Nat) (f : List Bk) (ks : List (Option Addr × Nat)) : Prop where
  own : w.ownsRow B 53 2 (.slice (some ⟨g, 0, none⟩) k c) k (hdrs f ks)
  bks : Bks w (some ⟨g, 0, none⟩) f ks
  apt : Apt B w.heap.size (some ⟨g, 0, none⟩) ks
theorem Apt.snoc {lo hi hi' g g' : Nat} {hs : List (Option Addr × Nat)} {x : Option Addr × Nat} (h : Apt lo hi (some ⟨g, 0, none⟩) hs) (hg : g' = g ∨ hi ≤ g') (hg' : g' < hi') (hx : ∀ b, blk x.1 b → hi ≤ b ∧ b < hi' ∧ b ≠ g') (hlh : lo ≤ hi) (hh : hi ≤ hi') : Apt lo hi' (some ⟨g', 0, none⟩) (hs ++ [x]) := by
  have hgl := h.top g (by rw [blk_some])
  have key : ∀ (j : Nat) (y : Option Addr × Nat), (hs ++ [x])[j]? = some y → (j = hs.length ∧ y = x) ∨ (j < hs.length ∧ hs[j]? = some y) := fun j y hy => by
    by_cases hj : j < hs.length
    · rw [List.getElem?_append_left hj] at hy; exact .inr ⟨hj, hy⟩
    · rw [List.getElem?_append_right (by omega)] at hy
      have hl := (List.getElem?_eq_some_iff.1 hy).1
      simp at hl
      have e : j = hs.length := by omega
      subst e
      simp at hy
      exact .inl ⟨rfl, hy.symm⟩
  refine ⟨fun b hb => by rw [blk_some] at hb; omega, fun j y b hy hb => ?_, fun j m y z b hy hz hb hc => ?_⟩
  · rcases key j y hy with ⟨_, ey⟩ | ⟨_, hy'⟩
    · have := hx b (ey ▸ hb); exact ⟨by omega, by omega, by rw [blk_some]; omega⟩
    · have := h.in_ j y b hy' hb
      rw [blk_some] at this
      exact ⟨by omega, by omega, by rw [blk_some]; omega⟩
  · rcases key j y hy with ⟨ej, ey⟩ | ⟨_, hy'⟩ <;> rcases key m z hz with ⟨em, ez⟩ | ⟨_, hz'⟩
    · omega
    · have h1 := hx b (ey ▸ hb); have h2 := h.in_ m z b hz' hc; omega
    · have h1 := hx b (ez ▸ hc); have h2 := h.in_ j y b hy' hb; omega
    · exact h.two j m y z b hy' hz' hb hc
theorem Bks.snoc {w w' : World} {g g' : Nat} {f : List Bk} {hs : List (Option Addr × Nat)} {b : Bk} {x : Option Addr × Nat} (h : Bks w (some ⟨g, 0, none⟩) f hs) (hk : ∀ (i : Nat) (y : Option Addr × Nat), hs[i]? = some y → ∀ c, blk y.1 c → c < w.heap.size → w'.heap[c]? = w.heap[c]?)
    (hr : Row w' (some ⟨g', 0, none⟩) (hdrs f hs ++ [.slice x.1 b.pages.length x.2, .int .i64 b.worn])) (hp : Row w' x.1 (pgs b.pages)) (hc : b.pages.length ≤ x.2) : Bks w' (some ⟨g', 0, none⟩) (f ++ [b]) (hs ++ [x]) := by
  refine ⟨by simp [h.len], by rw [hdrs_append f [b] hs [x] h.len]; exact hr, fun i c y hc' hy => ?_⟩
  have hl := h.len
  by_cases hi : i < f.length
  · rw [List.getElem?_append_left hi] at hc'
    rw [List.getElem?_append_left (by omega)] at hy
    obtain ⟨h1, h2⟩ := h.pg i c y hc' hy
    exact ⟨h1.keep (hk i y hy), h2⟩
  · rw [List.getElem?_append_right (by omega)] at hc'
    rw [List.getElem?_append_right (by omega)] at hy
    have hl' := (List.getElem?_eq_some_iff.1 hc').1
    simp at hl'
    have e : i = f.length := by omega
    subst e
    simp at hc'
    rw [hl] at hy
    simp at hy
    subst hc'; subst hy
    exact ⟨hp, hc⟩
theorem ownsRow_cap {w : World} {base : Nat} {e : TypeId} {size n c g : Nat} {xs : List Value} (h : w.ownsRow base e size (.slice (some ⟨g, 0, none⟩) n c) n xs) : n ≤ c := by
  obtain ⟨_, ⟨hv, _⟩ | ⟨g', cap, cur, hv, _, _, hc, _⟩⟩ := h
  · cases hv
  · cases hv; exact hc
/-- a block more: its pages lie at g1, the headers at g2 -/
theorem Bld.step {B : Nat} {wr w1 w2 : World} {g k c g1 c1 g2 c2 n : Nat} {f : List Bk} {ks : List (Option Addr × Nat)} {b : Bk} {o : Obj} (h : Bld B wr g k c f ks) (hn : b.pages.length = n) (hB : B ≤ wr.heap.size)
    (h1 : Row w1 (some ⟨g1, 0, none⟩) (pgs b.pages)) (hc1 : n ≤ c1) (hg1 : wr.heap.size ≤ g1) (hl1 : g1 < w1.heap.size) (hb1 : Below wr.heap.size wr w1)
    (hown : w2.ownsRow B 53 2 (.slice (some ⟨g2, 0, none⟩) (k + 1) c2) (k + 1) (hdrs f ks ++ [.slice (some ⟨g1, 0, none⟩) n c1, .int .i64 b.worn])) (hgr : (w1.alloc o).grownBy w2 (some g)) (hg2 : some g = some g2 ∨ g2 = w1.heap.size + 1) (hl2 : g2 < w2.heap.size) :
    Bld B w2 g2 (k + 1) c2 (f ++ [b]) (ks ++ [(some ⟨g1, 0, none⟩, c1)]) := by
  have hgl := h.apt.top g (by rw [blk_some])
  have hs1 := hb1.size
  have hs2 := hgr.size
  rw [World.size_alloc] at hs2
  have hkeep : ∀ i, i < w1.heap.size → i ≠ g → w2.heap[i]? = w1.heap[i]? := fun i hi hne => (hgr.block i (by rw [World.size_alloc]; omega) (by intro e; cases e; exact hne rfl)).trans (Below.heap_alloc w1 o i hi)
  refine ⟨by rw [hdrs_append _ _ _ _ h.bks.len]; simp only [hdrs, hn]; exact hown, ?_, ?_⟩
  · refine h.bks.snoc (fun i y hy d hd hl => ?_) (by rw [hn]; exact Row.of_own hown) (h1.keep fun d hd _ => hkeep d ?_ ?_) (by rw [hn]; exact hc1)
    · have h3 := h.apt.in_ i y d hy hd
      rw [blk_some] at h3
      rw [hkeep d (by omega) (by omega)]
      exact hb1.block d hl
    · rw [blk_some] at hd; omega
    · rw [blk_some] at hd; omega
  · refine h.apt.snoc (hi' := w2.heap.size) ?_ hl2 (fun d hd => ?_) hB (by omega)
    · rcases hg2 with e | e
      · cases e; exact .inl rfl
      · exact .inr (by omega)
    · rw [blk_some] at hd
      refine ⟨by omega, by omega, ?_⟩
      rcases hg2 with e | e
      · cases e; omega
      · omega
end Go.Proofs.Ytfkjhnfbajflaaa
namespace Go.Proofs.Ytfkjhnfbajflaaa
set_option linter.unusedVariables false
set_option linter.unusedSimpArgs false
open Go.RowKit Go.Maps
set_option maxHeartbeats 400000
theorem make_pages (w : World) : (Instr.makeSlice 51 (.int .i64 4) (.int .i64 4)).run Try.prog w = .ok (.slice (some ⟨w.heap.size, 0, none⟩) 4 4) (w.alloc (.cells #[.int .i64 0, .int .i64 0, .int .i64 0, .int .i64 0, .int .i64 0, .int .i64 0, .int .i64 0, .int .i64 0, .int .i64 0, .int .i64 0, .int .i64 0, .int .i64 0, .int .i64 0, .int .i64 0, .int .i64 0, .int .i64 0, .int .i64 0, .int .i64 0, .int .i64 0, .int .i64 0] 59)) := by kernel_rfl
set_option maxRecDepth 100000 in
set_option maxHeartbeats 1600000 in
theorem spec_FlashNew (w : World) : Calls Try.prog 72 #[] w fun e w' =>
    ∃ g c', e = .returned (.slice (some ⟨g, 0, none⟩) 4 c') ∧ 4 ≤ c' ∧ OFl w' w.heap.size w'.heap.size (some ⟨g, 0, none⟩) flashNew ∧ Below w.heap.size w w' := by
  obtain ⟨ib, hib, hbz0, hbz1, hbz2⟩ := info_parts Try.info3_block
  have hmk := make_pages
  have hb0 : Bld w.heap.size (w.alloc (.cells #[] 53)) w.heap.size 0 0 (flashNew.take 0) [] :=
    ⟨World.ownsRow_lit w #[] 0 (Nat.le_refl _) (by unfold maxLen; omega) rfl, ⟨rfl, Row.nil _ _, fun _ _ _ h _ => absurd h (by simp)⟩, ⟨fun b hb => by rw [blk_some] at hb; simp; omega, fun _ _ _ h _ => absurd h (by simp), fun _ _ _ _ _ h _ _ _ => absurd h (by simp)⟩⟩
  have hB0 : Below w.heap.size w (w.alloc (.cells #[] 53)) := (Below.refl _ _).alloc (Nat.le_refl _) _
  go_enter Try.func72, Try.ntmps72
  go_wp2
  go_loopw [1, 2] (fun v i wr => ∃ (k g c : Nat) (ks : List (Option Addr × Nat)), k ≤ 4 ∧ i = .int .i64 k ∧ v = .slice (some ⟨g, 0, none⟩) k c ∧ Below w.heap.size w wr ∧ Bld w.heap.size wr g k c (flashNew.take k) ks ∧ k ≤ c) (fun _ i _ => 4 - (intOf i).toNat)
  case atStart => exact ⟨0, _, 0, [], by omega, rfl, rfl, hB0, hb0, Nat.le_refl _⟩
  case round =>
    clear hb0 hB0
    obtain ⟨k, g, c, ks, hk, rfl, rfl, hb, hBd, hkc⟩ := hrel
    by_cases hlt : k < 4
    · have hown := hBd.own
      have hsz := hb.size
      have hgl := hBd.apt.top g (by rw [blk_some])
      have hR1 : Row (wr.alloc (.cells #[.int .i64 0, .int .i64 0, .int .i64 0, .int .i64 0, .int .i64 0, .int .i64 0, .int .i64 0, .int .i64 0, .int .i64 0, .int .i64 0, .int .i64 0, .int .i64 0, .int .i64 0, .int .i64 0, .int .i64 0, .int .i64 0, .int .i64 0, .int .i64 0, .int .i64 0, .int .i64 0] 59)) (some ⟨wr.heap.size, 0, none⟩) (pgs (List.replicate 4 pg0)) := Row.new wr #[.int .i64 0, .int .i64 0, .int .i64 0, .int .i64 0, .int .i64 0, .int .i64 0, .int .i64 0, .int .i64 0, .int .i64 0, .int .i64 0, .int .i64 0, .int .i64 0, .int .i64 0, .int .i64 0, .int .i64 0, .int .i64 0, .int .i64 0, .int .i64 0, .int .i64 0, .int .i64 0] _
      obtain ⟨W, hW⟩ : ∃ W, wr.alloc (.cells #[.int .i64 0, .int .i64 0, .int .i64 0, .int .i64 0, .int .i64 0, .int .i64 0, .int .i64 0, .int .i64 0, .int .i64 0, .int .i64 0, .int .i64 0, .int .i64 0, .int .i64 0, .int .i64 0, .int .i64 0, .int .i64 0, .int .i64 0, .int .i64 0, .int .i64 0, .int .i64 0] 59) = W := ⟨_, rfl⟩
      have hownW := hown.alloc (.cells #[.int .i64 0, .int .i64 0, .int .i64 0, .int .i64 0, .int .i64 0, .int .i64 0, .int .i64 0, .int .i64 0, .int .i64 0, .int .i64 0, .int .i64 0, .int .i64 0, .int .i64 0, .int .i64 0, .int .i64 0, .int .i64 0, .int .i64 0, .int .i64 0, .int .i64 0, .int .i64 0] 59)
      have hbW : Below wr.heap.size wr W := hW ▸ (Below.refl _ _).alloc (Nat.le_refl _) _
      have hsW : W.heap.size = wr.heap.size + 1 := by rw [← hW]; simp
      have hmkW := hmk wr
      rw [hW] at hR1 hownW hmkW
      have HSW := Lib.hid hsW
      have HK := Lib.hid hmk
      clear hmk hW hsW
      go_wp2_with (at_builtin; refine wpList_append_lies _ rfl (.tmp 8) (.tmp 11) _ rfl w.heap.size 53 ib _ 2 32 Try.underlying23 hib hbz0 hbz1 hbz2 rfl (by omega) (.slice (some ⟨g, 0, none⟩) k c) k (hdrs (flashNew.take k) ks) rfl (hownW.alloc (.cells #[.slice (some ⟨wr.heap.size, 0, none⟩) 4 4, .int .i64 0] 53)) ⟨W.heap.size, 0, none⟩ 1 1 [.slice (some ⟨wr.heap.size, 0, none⟩) 4 4, .int .i64 0] rfl rfl (World.news_of_block (cs := #[.slice (some ⟨wr.heap.size, 0, none⟩) 4 4, .int .i64 0]) (t := 53) (fr := (0, 0)) (heap_alloc_new W _)) (by simp [Value.oneCell']) (by omega) (by unfold maxLen; omega) (by omega) (by have := HSW.out; simp; omega) (W.heap.size + 1) (by simp) ?_; intro g2 c2 w2 hown2 hgrow2 hat2 hlt2)
      have hstep := hBd.step (b := newBlock) (c1 := 4) (n := 4) (by rfl) hsz hR1 (Nat.le_refl _) (Nat.le_refl _) (by have := HSW.out; omega) hbW hown2 hgrow2 hat2 hlt2
      rw [show flashNew.take k ++ [newBlock] = flashNew.take (k + 1) from by rw [List.take_add_one, show flashNew[k]? = some newBlock by rw [flashNew, List.getElem?_replicate, if_pos hlt]]; rfl] at hstep
      have hcap := ownsRow_cap hown2
      have hB2 := hb.trans (((hbW.mono hsz).alloc (by have := HSW.out; omega) _).grown hgrow2 (by have := HSW.out; simp; omega) (by intro q e; cases e; exact hgl.1))
      go_roundw
      case rel => exact ⟨k + 1, g2, c2, _, by omega, by go_num, rfl, hB2, hstep, hcap⟩
      case measure => simp [intOf]; omega
    · obtain rfl : k = 4 := by omega
      go_wp2
      go_ret
      exact ⟨g, c, rfl, hkc, ⟨ks, hBd.bks, hBd.apt⟩, hb⟩

/-- a store to a header's second cell: the wear -/
theorem wrote_worn {w : World} {g o i : Nat} {f : List Bk} {hs : List (Option Addr × Nat)} {b : Bk} {x : Option Addr × Nat} (h : Bks w (some ⟨g, o, none⟩) f hs) (hi : f[i]? = some b) (hx : hs[i]? = some x) (n : Int) :
    Wrote w (w.setCell ⟨g, o + i * 2 + 1, none⟩ (.int .i64 n)) g (o + i * 2) [.slice x.1 b.pages.length x.2, .int .i64 n] := by
  obtain ⟨y, hy, c0, c1, _⟩ := h.at_ hi
  rw [hx] at hy; cases hy
  exact (wrote_one c1 (.int .i64 n)).less c0
def wipeR (f : List Bk) (i : Nat) (torn : Bool) : List Bk × Bool := if 200 ≤ (f.getD i zbk).worn then (f, false) else (wipe f i torn, true)
set_option maxRecDepth 100000 in
theorem spec_l2Wipe' (f : List Bk) (i lo hi g o c : Nat) (torn : Bool) (w : World) (hl : f.length = 4) (hp : ∀ b ∈ f, b.pages.length = 4 ∧ 0 ≤ b.worn ∧ b.worn ≤ 200) (hi4 : i < 4) (hs : List (Option Addr × Nat)) (hBk : Bks w (some ⟨g, o, none⟩) f hs) (hApt : Apt lo hi (some ⟨g, o, none⟩) hs) :
    Calls Try.prog 81 #[.slice (some ⟨g, o, none⟩) 4 c, .int .i64 i, .bool torn] w fun e w' =>
      e = .returned (.tuple #[.slice (some ⟨g, o, none⟩) 4 c, .bool (wipeR f i torn).2]) ∧ Bks w' (some ⟨g, o, none⟩) (wipeR f i torn).1 hs ∧ Agr (fblk (some ⟨g, o, none⟩) hs) w w' := by
  obtain ⟨B, hB⟩ := get_some (l := f) (k := i) (by omega)
  have hBm := hp B (List.mem_of_getElem? hB)
  have hBget : f.getD i zbk = B := by rw [List.getD_eq_getElem?_getD, hB]; rfl
  obtain ⟨x, hx, z0, z1, z2, z3, hR, _⟩ := hBk.at_ hB
  obtain ⟨hw1, hw2, hw3⟩ := hBm
  have hg := hApt.top g (by rw [blk_some])
  have hi4' : (i : Int) < 4 := by omega
  have hi0 : (0 : Int) ≤ i := by omega
  by_cases h200 : 200 ≤ B.worn
  · have hfin : Hid (wipeR f i torn = (f, false)) := by unfold Hid wipeR; rw [hBget, if_pos h200]
    clear hl hp hBget hw1
    go_enter Try.func81, Try.ntmps81
    go_wp2
    go_ret2
    rw [hfin.out]
    exact ⟨rfl, hBk, Agr.refl _ _⟩
  · have hfin : Hid (wipeR f i torn = (wipe f i torn, true)) := by unfold Hid wipeR; rw [hBget, if_neg h200]
    have hlt : B.worn < 200 := by omega
    obtain ⟨⟨pb, po, hpa⟩, hpb⟩ : (∃ pb po, x.1 = some ⟨pb, po, none⟩) ∧ True := ⟨hR.addr (pgs_ne (by intro e; rw [e] at hw1; simp at hw1)), trivial⟩
    obtain ⟨A, cp⟩ := x
    dsimp only at hpa
    subst hpa
    dsimp only at *
    have hW := wrote_worn hBk hB hx (B.worn + 1)
    have hBk1 := hBk.setHdr hApt hB hx hW
    have hpin := hApt.in_ i _ pb hx (by rw [blk_some])
    rw [blk_some] at hpin
    have hW1 := Lib.hid hW.agr
    have HX := Lib.hid hx
    have HL := Lib.hid hl
    have HB := Lib.hid hB
    have HG := Lib.hid hBget
    have HW1 := Lib.hid hw1
    rw [hw1] at z0
    have hz0' := hW.new_ 0 _ rfl
    rw [Nat.add_zero, hw1] at hz0'
    clear hl hp hB hBget hx hw1 hpb hW
    go_enter Try.func81, Try.ntmps81
    cases torn
    · go_wp2
      go_loopw [9] (fun q wr => ∃ (k : Nat), k ≤ 4 ∧ q = .int .i64 k ∧ Bks wr (some ⟨g, o, none⟩) (f.set i ⟨List.replicate k ⟨0, rc0⟩ ++ B.pages.drop k, B.worn + 1⟩) hs ∧ Agr (fblk (some ⟨g, o, none⟩) hs) w wr ∧ wr.cell? ⟨g, o + i * 2, none⟩ = some (.slice (some ⟨pb, po, none⟩) 4 cp)) (fun q _ => 4 - (intOf q).toNat)
      case atStart => exact ⟨0, by omega, rfl, hBk1, (Agr.refl _ _).trans hW1.out (fun k _ e => .inl (by rw [e, blk_some])), hz0'⟩
      case round =>
        clear hBk1 hz0'
        obtain ⟨k, hk, rfl, hBk2, hA, hz⟩ := hrel
        by_cases hltk : k < 4
        · have hk4' : (k : Int) < 4 := by omega
          have hget : (f.set i ⟨List.replicate k ⟨0, rc0⟩ ++ B.pages.drop k, B.worn + 1⟩)[i]? = some ⟨List.replicate k ⟨0, rc0⟩ ++ B.pages.drop k, B.worn + 1⟩ := by rw [List.getElem?_set_self (by have := HL.out; omega)]
          obtain ⟨hr2, _⟩ := hBk2.pg i _ _ hget HX.out
          obtain ⟨q, hq⟩ := get_some (l := List.replicate k (⟨0, rc0⟩ : Pg) ++ B.pages.drop k) (k := k) (by have := HW1.out; simp; omega)
          obtain ⟨c0, c1, c2, c3, c4⟩ := hr2.pg hq
          obtain ⟨f0, f1, f2, f3, f4⟩ := hr2.pgf hq
          have hWp := wrote_page hr2 hq ⟨0, rc0⟩
          have hBk3 := hBk2.setPage hApt hget HX.out (by have := HW1.out; simp; omega) hWp
          rw [List.set_set] at hBk3
          dsimp only at hBk3
          rw [fill_step _ _ _ (by have := HW1.out; omega)] at hBk3
          have hA3 := hA.trans hWp.agr (fun j _ e => .inr ⟨i, _, HX.out, by rw [e, blk_some]⟩)
          have hz3 := (hWp.block g (by omega))
          have HQ := Lib.hid hq
          have HGT := Lib.hid hget
          have hz4 := (World.cell?_of_block (a := ⟨g, o + i * 2, none⟩) hz3).trans hz
          simp only [rc0] at hBk3 hA3 hz4
          clear hq hget hz3 hWp
          go_wp2
          go_roundw
          case rel => exact ⟨k + 1, by omega, by go_num, hBk3, hA3, hz4⟩
          case measure => simp [intOf]; omega
        · obtain rfl : k = 4 := by omega
          go_wp2
          go_ret2
          rw [hfin.out]
          rw [show B.pages.drop 4 = [] from List.drop_of_length_le (by have := HW1.out; omega), List.append_nil] at hBk2
          exact ⟨rfl, by unfold wipe; rw [HG.out]; exact hBk2, hA⟩
    · go_wp2
      go_loopw [9] (fun q wr => ∃ (k : Nat), k ≤ 4 ∧ q = .int .i64 k ∧ Bks wr (some ⟨g, o, none⟩) (f.set i ⟨List.replicate k ⟨2, rc0⟩ ++ B.pages.drop k, B.worn + 1⟩) hs ∧ Agr (fblk (some ⟨g, o, none⟩) hs) w wr ∧ wr.cell? ⟨g, o + i * 2, none⟩ = some (.slice (some ⟨pb, po, none⟩) 4 cp)) (fun q _ => 4 - (intOf q).toNat)
      case atStart => exact ⟨0, by omega, rfl, hBk1, (Agr.refl _ _).trans hW1.out (fun k _ e => .inl (by rw [e, blk_some])), hz0'⟩
      case round =>
        clear hBk1 hz0'
        obtain ⟨k, hk, rfl, hBk2, hA, hz⟩ := hrel
        by_cases hltk : k < 4
        · have hk4' : (k : Int) < 4 := by omega
          have hget : (f.set i ⟨List.replicate k ⟨2, rc0⟩ ++ B.pages.drop k, B.worn + 1⟩)[i]? = some ⟨List.replicate k ⟨2, rc0⟩ ++ B.pages.drop k, B.worn + 1⟩ := by rw [List.getElem?_set_self (by have := HL.out; omega)]
          obtain ⟨hr2, _⟩ := hBk2.pg i _ _ hget HX.out
          obtain ⟨q, hq⟩ := get_some (l := List.replicate k (⟨2, rc0⟩ : Pg) ++ B.pages.drop k) (k := k) (by have := HW1.out; simp; omega)
          obtain ⟨c0, c1, c2, c3, c4⟩ := hr2.pg hq
          obtain ⟨f0, f1, f2, f3, f4⟩ := hr2.pgf hq
          have hWp := wrote_page hr2 hq ⟨2, rc0⟩
          have hBk3 := hBk2.setPage hApt hget HX.out (by have := HW1.out; simp; omega) hWp
          rw [List.set_set] at hBk3
          dsimp only at hBk3
          rw [fill_step _ _ _ (by have := HW1.out; omega)] at hBk3
          have hA3 := hA.trans hWp.agr (fun j _ e => .inr ⟨i, _, HX.out, by rw [e, blk_some]⟩)
          have hz3 := (hWp.block g (by omega))
          have HQ := Lib.hid hq
          have HGT := Lib.hid hget
          have hz4 := (World.cell?_of_block (a := ⟨g, o + i * 2, none⟩) hz3).trans hz
          simp only [rc0] at hBk3 hA3 hz4
          clear hq hget hz3 hWp
          go_wp2
          go_roundw
          case rel => exact ⟨k + 1, by omega, by go_num, hBk3, hA3, hz4⟩
          case measure => simp [intOf]; omega
        · obtain rfl : k = 4 := by omega
          go_wp2
          go_ret2
          rw [hfin.out]
          rw [show B.pages.drop 4 = [] from List.drop_of_length_le (by have := HW1.out; omega), List.append_nil] at hBk2
          exact ⟨rfl, by unfold wipe; rw [HG.out]; exact hBk2, hA⟩
theorem spec_l2Wipe (f : List Bk) (i lo hi g o c : Nat) (torn : Bool) (w : World) (hl : f.length = 4) (hp : ∀ b ∈ f, b.pages.length = 4 ∧ 0 ≤ b.worn ∧ b.worn ≤ 200) (hi4 : i < 4) (hF : OFl w lo hi (some ⟨g, o, none⟩) f) :
    Calls Try.prog 81 #[.slice (some ⟨g, o, none⟩) 4 c, .int .i64 i, .bool torn] w fun e w' =>
      e = .returned (.tuple #[.slice (some ⟨g, o, none⟩) 4 c, .bool (wipeR f i torn).2]) ∧ OFl w' lo hi (some ⟨g, o, none⟩) (wipeR f i torn).1 ∧ Agr (fun b => lo ≤ b ∧ b < hi) w w' := by
  obtain ⟨hs, hBk, hApt⟩ := hF
  refine (spec_l2Wipe' f i lo hi g o c torn w hl hp hi4 hs hBk hApt).mono ?_
  rintro e w1 ⟨h1, h2, h3⟩
  exact ⟨h1, ⟨hs, h2, hApt⟩, h3.mono fun b hb => hApt.fblk hb⟩

theorem ofl_empty {w : World} {lo hi g : Nat} (h1 : lo ≤ g) (h2 : g < hi) : OFl w lo hi (some ⟨g, 0, none⟩) [] :=
  ⟨[], ⟨rfl, Row.nil _ _, fun _ _ _ h _ => absurd h (by simp)⟩, ⟨fun b h => by rw [blk_some] at h; omega, fun _ _ _ h _ => absurd h (by simp), fun _ _ _ _ _ h _ _ _ => absurd h (by simp)⟩⟩
theorem wipeR_eq {f : List Bk} {i : Nat} {torn : Bool} (hok : flashOk f = true) (hi : i < 4) : flashWipe f i torn = wipeR f i torn := by
  have hl := flashOk_len hok
  obtain ⟨B, hB⟩ := get_some (l := f) (k := i) (by omega)
  have hs := flashOk_shape hok B (List.mem_of_getElem? hB)
  have hBget : f.getD i zbk = B := by rw [List.getD_eq_getElem?_getD, hB]; rfl
  unfold flashWipe wipeR
  rw [if_neg (by rw [hok]; unfold blockB; simp; omega), Int.toNat_natCast, hBget]
  by_cases h : B.worn = 200
  · rw [if_pos h, if_pos (by omega)]
  · rw [if_neg h, if_neg (by omega)]
theorem wipeR_len (f : List Bk) (i : Nat) (torn : Bool) : (wipeR f i torn).1.length = f.length := by
  unfold wipeR wipe
  split <;> simp
end Go.Proofs.Ytfkjhnfbajflaaa
