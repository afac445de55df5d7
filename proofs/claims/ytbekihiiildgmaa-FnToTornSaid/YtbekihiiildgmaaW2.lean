/- What the laws' walks share: words, plain laws, and the walks of functions, part 2. -/
import Derived.Deep.AppendLies
import Derived.Deep.RegionHeld3
import Derived.Deep.Onto
import Derived.OwnWalk
import Derived.BigQuiet
import Derived.Deep.RegionWith
import Derived.RangeFuncNested
import Derived.RangeFuncCalls
import Derived.OrdersIn
import Derived.Test.YtbekihiiildgmaaW1
namespace Go.Proofs.Ytbekihiiildgmaa
set_option linter.unusedVariables false
set_option linter.unusedSimpArgs false
open Go.RowKit Go.Maps
set_option maxHeartbeats 400000
theorem Try.info3_page : (Try.prog.info? 119).map (fun i => (i.zero, i.size, i.bytes)) = some (some (.agg #[.int .i64 0, .int .i64 0, .int .i64 0, .int .i64 0, .int .i64 0]), 5, 40) := by kernel_rfl
theorem Try.info3_block : (Try.prog.info? 137).map (fun i => (i.zero, i.size, i.bytes)) = some (some (.agg #[.slice none 0 0, .int .i64 0]), 2, 32) := by kernel_rfl
/-- a flash that is being built by append: k blocks so far -/
structure Bld (B : Nat) (w : World) (g k c : Nat) (f : List Bk) (ks : List (Option Addr × Nat)) : Prop where
  own : w.ownsRow B 137 2 (.slice (some ⟨g, 0, none⟩) k c) k (hdrs f ks)
  bks : Bks w (some ⟨g, 0, none⟩) f ks
  apt : Apt B w.heap.size (some ⟨g, 0, none⟩) ks
theorem Apt.snoc {lo hi hi' g g' : Nat} {hs : List (Option Addr × Nat)} {x : Option Addr × Nat} (h : Apt lo hi (some ⟨g, 0, none⟩) hs) (hg : g' = g ∨ hi ≤ g') (hg' : g' < hi') (hx : ∀ b, blk x.1 b → hi ≤ b ∧ b < hi' ∧ b ≠ g') (hlh : lo ≤ hi) (hh : hi ≤ hi') : Apt lo hi' (some ⟨g', 0, none⟩) (hs ++ [x]) := by
  have hgl := h.top g (by rw [blk_some])
  have key : ∀ (j : Nat) (y : Option Addr × Nat), (hs ++ [x])[j]? = some y → (j = hs.length ∧ y = x) ∨ (j < hs.length ∧ hs[j]? = some y) := fun j y hy => by
    by_cases hj : j < hs.length
    · rw [List.getElem?_append_left hj] at hy; exact .inr ⟨hj, hy⟩
    · rw [List.getElem?_append_right (by omega)] at hy
      have hl := (List.getElem?_eq_some_iff.1 hy).1
      simp at hl
      have e : j = hs.length := by omega
      subst e
      simp at hy
      exact .inl ⟨rfl, hy.symm⟩
  refine ⟨fun b hb => by rw [blk_some] at hb; omega, fun j y b hy hb => ?_, fun j m y z b hy hz hb hc => ?_⟩
  · rcases key j y hy with ⟨_, ey⟩ | ⟨_, hy'⟩
    · have := hx b (ey ▸ hb); exact ⟨by omega, by omega, by rw [blk_some]; omega⟩
    · have := h.in_ j y b hy' hb
      rw [blk_some] at this
      exact ⟨by omega, by omega, by rw [blk_some]; omega⟩
  · rcases key j y hy with ⟨ej, ey⟩ | ⟨_, hy'⟩ <;> rcases key m z hz with ⟨em, ez⟩ | ⟨_, hz'⟩
    · omega
    · have h1 := hx b (ey ▸ hb); have h2 := h.in_ m z b hz' hc; omega
    · have h1 := hx b (ez ▸ hc); have h2 := h.in_ j y b hy' hb; omega
    · exact h.two j m y z b hy' hz' hb hc
theorem Bks.snoc {w w' : World} {g g' : Nat} {f : List Bk} {hs : List (Option Addr × Nat)} {b : Bk} {x : Option Addr × Nat} (h : Bks w (some ⟨g, 0, none⟩) f hs) (hk : ∀ (i : Nat) (y : Option Addr × Nat), hs[i]? = some y → ∀ c, blk y.1 c → c < w.heap.size → w'.heap[c]? = w.heap[c]?)
    (hr : Row w' (some ⟨g', 0, none⟩) (hdrs f hs ++ [.slice x.1 b.pages.length x.2, .int .i64 b.worn])) (hp : Row w' x.1 (pgs b.pages)) (hc : b.pages.length ≤ x.2) : Bks w' (some ⟨g', 0, none⟩) (f ++ [b]) (hs ++ [x]) := by
  refine ⟨by simp [h.len], by rw [hdrs_append f [b] hs [x] h.len]; exact hr, fun i c y hc' hy => ?_⟩
  have hl := h.len
  by_cases hi : i < f.length
  · rw [List.getElem?_append_left hi] at hc'
    rw [List.getElem?_append_left (by omega)] at hy
    obtain ⟨h1, h2⟩ := h.pg i c y hc' hy
    exact ⟨h1.keep (hk i y hy), h2⟩
  · rw [List.getElem?_append_right (by omega)] at hc'
    rw [List.getElem?_append_right (by omega)] at hy
    have hl' := (List.getElem?_eq_some_iff.1 hc').1
    simp at hl'
    have e : i = f.length := by omega
    subst e
    simp at hc'
    rw [hl] at hy
    simp at hy
    subst hc'; subst hy
    exact ⟨hp, hc⟩
theorem ownsRow_cap {w : World} {base : Nat} {e : TypeId} {size n c g : Nat} {xs : List Value} (h : w.ownsRow base e size (.slice (some ⟨g, 0, none⟩) n c) n xs) : n ≤ c := by
  obtain ⟨_, ⟨hv, _⟩ | ⟨g', cap, cur, hv, _, _, hc, _⟩⟩ := h
  · cases hv
  · cases hv; exact hc
/-- a block more: its pages lie at g1, the headers at g2 -/
theorem Bld.step {B : Nat} {wr w1 w2 : World} {g k c g1 c1 g2 c2 n : Nat} {f : List Bk} {ks : List (Option Addr × Nat)} {b : Bk} {o : Obj} (h : Bld B wr g k c f ks) (hn : b.pages.length = n) (hB : B ≤ wr.heap.size)
    (h1 : Row w1 (some ⟨g1, 0, none⟩) (pgs b.pages)) (hc1 : n ≤ c1) (hg1 : wr.heap.size ≤ g1) (hl1 : g1 < w1.heap.size) (hb1 : Below wr.heap.size wr w1)
    (hown : w2.ownsRow B 137 2 (.slice (some ⟨g2, 0, none⟩) (k + 1) c2) (k + 1) (hdrs f ks ++ [.slice (some ⟨g1, 0, none⟩) n c1, .int .i64 b.worn])) (hgr : (w1.alloc o).grownBy w2 (some g)) (hg2 : some g = some g2 ∨ g2 = w1.heap.size + 1) (hl2 : g2 < w2.heap.size) :
    Bld B w2 g2 (k + 1) c2 (f ++ [b]) (ks ++ [(some ⟨g1, 0, none⟩, c1)]) := by
  have hgl := h.apt.top g (by rw [blk_some])
  have hs1 := hb1.size
  have hs2 := hgr.size
  rw [World.size_alloc] at hs2
  have hkeep : ∀ i, i < w1.heap.size → i ≠ g → w2.heap[i]? = w1.heap[i]? := fun i hi hne => (hgr.block i (by rw [World.size_alloc]; omega) (by intro e; cases e; exact hne rfl)).trans (Below.heap_alloc w1 o i hi)
  refine ⟨by rw [hdrs_append _ _ _ _ h.bks.len]; simp only [hdrs, hn]; exact hown, ?_, ?_⟩
  · refine h.bks.snoc (fun i y hy d hd hl => ?_) (by rw [hn]; exact Row.of_own hown) (h1.keep fun d hd _ => hkeep d ?_ ?_) (by rw [hn]; exact hc1)
    · have h3 := h.apt.in_ i y d hy hd
      rw [blk_some] at h3
      rw [hkeep d (by omega) (by omega)]
      exact hb1.block d hl
    · rw [blk_some] at hd; omega
    · rw [blk_some] at hd; omega
  · refine h.apt.snoc (hi' := w2.heap.size) ?_ hl2 (fun d hd => ?_) hB (by omega)
    · rcases hg2 with e | e
      · cases e; exact .inl rfl
      · exact .inr (by omega)
    · rw [blk_some] at hd
      refine ⟨by omega, by omega, ?_⟩
      rcases hg2 with e | e
      · cases e; omega
      · omega
set_option maxRecDepth 100000 in
set_option maxHeartbeats 3200000 in
theorem spec_l2Copy (A : Option Addr) (c : Nat) (f : List Bk) (w : World) (hl : f.length = 4) (hp : ∀ b ∈ f, b.pages.length = 4) (hF : Fl w A f) :
    Calls Try.prog 112 #[.slice A 4 c] w fun e w' =>
      ∃ g c', e = .returned (.slice (some ⟨g, 0, none⟩) 4 c') ∧ 4 ≤ c' ∧ OFl w' w.heap.size w'.heap.size (some ⟨g, 0, none⟩) f ∧ Below w.heap.size w w' := by
  obtain ⟨hs, hF⟩ := hF
  obtain ⟨bk, off, rfl⟩ := hF.addr (by rintro rfl; simp at hl)
  obtain ⟨ip, hip, hpz0, hpz1, hpz2⟩ := info_parts Try.info3_page
  obtain ⟨ib, hib, hbz0, hbz1, hbz2⟩ := info_parts Try.info3_block
  have HL := Lib.hid hl
  have HP := Lib.hid hp
  clear hl hp
  have hb0 : Bld w.heap.size (w.alloc (.cells #[] 137)) w.heap.size 0 0 [] [] :=
    ⟨World.ownsRow_lit w #[] 0 (Nat.le_refl _) (by unfold maxLen; omega) rfl, ⟨rfl, Row.nil _ _, fun _ _ _ h _ => absurd h (by simp)⟩, ⟨fun b hb => by rw [blk_some] at hb; simp; omega, fun _ _ _ h _ => absurd h (by simp), fun _ _ _ _ _ h _ _ _ => absurd h (by simp)⟩⟩
  have hB0 : Below w.heap.size w (w.alloc (.cells #[] 137)) := (Below.refl _ _).alloc (Nat.le_refl _) _
  go_enter Try.func112, Try.ntmps112
  go_wp2
  go_loopw [3, 4] (fun v i wr => ∃ (k g c : Nat) (ks : List (Option Addr × Nat)), k ≤ 4 ∧ i = .int .i64 k ∧ v = .slice (some ⟨g, 0, none⟩) k c ∧ Below w.heap.size w wr ∧ Bld w.heap.size wr g k c (f.take k) ks ∧ k ≤ c) (fun _ i _ => 4 - (intOf i).toNat)
  case atStart => exact ⟨0, _, 0, [], by omega, rfl, rfl, hB0, hb0, Nat.le_refl _⟩
  case round =>
    clear hb0 hB0
    obtain ⟨k, g, c, ks, hk, rfl, rfl, hb, hBd, hkc⟩ := hrel
    by_cases hlt : k < 4
    · obtain ⟨B, hB⟩ := get_some (l := f) (k := k) (by have := HL.out; omega)
      have hBl : B.pages.length = 4 := HP.out B (List.mem_of_getElem? hB)
      obtain ⟨⟨Ap, cp⟩, _, c0, c1, _, _, hR, hlc⟩ := hF.at_ hB
      have hbk : bk < w.heap.size := lt_of_cell c0
      replace c0 := (hb.cell (p := ⟨bk, off + k * 2, none⟩) hbk).trans c0
      replace c1 := (hb.cell (p := ⟨bk, off + k * 2 + 1, none⟩) hbk).trans c1
      have hRw := (hR.below hb (Nat.le_refl _))
      obtain ⟨pb, po, rfl⟩ := hR.addr (pgs_ne (by rintro e; simp [e] at hBl))
      have HB := Lib.hid hB
      have HBL := Lib.hid hBl
      rw [hBl] at c0
      obtain ⟨Ps, wn⟩ := B
      dsimp only at *
      have hlen : (pgs Ps).length = 4 * 5 := by rw [pgs_len, HBL.out]
      have HLEN := Lib.hid hlen
      have hown := hBd.own
      have hsz := hb.size
      have hbk' : bk < wr.heap.size := by omega
      have hk4 : (k : Int) < 4 := by omega
      have hgl := hBd.apt.top g (by rw [blk_some])
      have hgne : (Value.slice (some ⟨g, 0, none⟩) k c).ownBlock ≠ some wr.heap.size := by simp [Value.ownBlock]; omega
      clear hB hR hBl hlc hlen
      go_wp2
      go_region_held3 (fun w' => w'.cell? ⟨bk, off + k * 2, none⟩ = some (.slice (some ⟨pb, po, none⟩) 4 cp) ∧ w'.cell? ⟨bk, off + k * 2 + 1, none⟩ = some (.int .i64 wn))
        (go_keep)
        (first
          | (refine step_append_lies _ (by rfl) (.tmp 13) (.tmp 18) _ (by rfl) w.heap.size 119 ip _ 5 40 Try.underlying135 hip hpz0 hpz1 hpz2 rfl (by omega) (.slice (some ⟨wr.heap.size, 0, none⟩) 0 0) 0 [] (by rfl) ((World.ownsRow_lit (size := 5) wr #[] 0 hsz (by unfold maxLen; omega) rfl).drew) ⟨pb, po, none⟩ 4 cp (pgs Ps) (by rfl) HLEN.out ((hRw.alloc _).news) (oneCell_pgs Ps) (by omega) (by unfold maxLen; omega) (by omega) (by simp; omega) (wr.heap.size + 1) (by simp) ?_; intro g1 c1' w1 hown1 hgrow1 hat1 hlt1; have hb1 : Below wr.heap.size wr w1 := (((Below.refl _ _).alloc (Nat.le_refl _) _).drew).grown hgrow1 (by simp) (by intro q e; cases e; exact Nat.le_refl _); have y0 := (hb1.cell (p := ⟨bk, off + k * 2, none⟩) hbk').trans c0; have y1 := (hb1.cell (p := ⟨bk, off + k * 2 + 1, none⟩) hbk').trans c1; have hownO := (((hown.alloc _).drew).kept hgrow1 (.inr hgne)).alloc (.cells #[.slice (some ⟨g1, 0, none⟩) (0 + 4) c1', .int .i64 wn] 137); have hsz1 : w.heap.size ≤ w1.heap.size := Nat.le_trans hsz hb1.size)
          | (refine step_append_lies _ (by rfl) (.tmp 12) (.tmp 26) _ (by rfl) w.heap.size 137 ib _ 2 32 Try.underlying23 hib hbz0 hbz1 hbz2 rfl (by omega) (.slice (some ⟨g, 0, none⟩) k c) k (hdrs (f.take k) ks) (by rfl) hownO ⟨w1.heap.size, 0, none⟩ 1 1 [.slice (some ⟨g1, 0, none⟩) (0 + 4) c1', .int .i64 wn] (by rfl) (by rfl) (World.news_of_block (cs := #[.slice (some ⟨g1, 0, none⟩) (0 + 4) c1', .int .i64 wn]) (t := 137) (fr := (0, 0)) (heap_alloc_new w1 _)) (by simp [Value.oneCell']) (by omega) (by unfold maxLen; omega) (by omega) (by simp; omega) (w1.heap.size + 1) (by simp) ?_; intro g2 c2 w2 hown2 hgrow2 hat2 hlt2; have hb2 : Below w.heap.size wr w2 := ((hb1.mono hsz).alloc hsz1 _).grown hgrow2 (by simp; omega) (by intro q e; cases e; exact hgl.1); have y2 := (hb2.cell (p := ⟨bk, off + k * 2, none⟩) hbk).trans c0; have y3 := (hb2.cell (p := ⟨bk, off + k * 2 + 1, none⟩) hbk).trans c1))
      have hstep := hBd.step (b := ⟨Ps, wn⟩) HBL.out hsz (Row.of_own hown1) (ownsRow_cap hown1) (by rcases hat1 with e | e <;> (try simp [Value.ownBlock] at e) <;> omega) hlt1 hb1 hown2 hgrow2 hat2 hlt2
      rw [show f.take k ++ [(⟨Ps, wn⟩ : Bk)] = f.take (k + 1) from by rw [List.take_add_one, HB.out]; rfl] at hstep
      have hcap := ownsRow_cap hown2
      have hB2 := hb.trans hb2
      clear hown2 hown1 hgrow1 hgrow2 hat1 hat2 hownO hown hBd
      go_wp2
      go_roundw
      case rel => exact ⟨k + 1, g2, c2, _, by omega, by go_num, rfl, hB2, hstep, hcap⟩
      case measure => simp [intOf]; omega
    · obtain rfl : k = 4 := by omega
      go_wp2
      go_ret
      have := HL.out
      rw [List.take_of_length_le (by omega)] at hBd
      exact ⟨g, c, rfl, hkc, ⟨ks, hBd.bks, hBd.apt⟩, hb⟩
end Go.Proofs.Ytbekihiiildgmaa
namespace Go.Proofs.Ytbekihiiildgmaa
set_option linter.unusedVariables false
set_option linter.unusedSimpArgs false
open Go.RowKit Go.Maps
set_option maxHeartbeats 400000
theorem make_pages (w : World) : (Instr.makeSlice 135 (.int .i64 4) (.int .i64 4)).run Try.prog w = .ok (.slice (some ⟨w.heap.size, 0, none⟩) 4 4) (w.alloc (.cells #[.int .i64 0, .int .i64 0, .int .i64 0, .int .i64 0, .int .i64 0, .int .i64 0, .int .i64 0, .int .i64 0, .int .i64 0, .int .i64 0, .int .i64 0, .int .i64 0, .int .i64 0, .int .i64 0, .int .i64 0, .int .i64 0, .int .i64 0, .int .i64 0, .int .i64 0, .int .i64 0] 119)) := by kernel_rfl
set_option maxRecDepth 100000 in
set_option maxHeartbeats 1600000 in
theorem spec_FlashNew (w : World) : Calls Try.prog 136 #[] w fun e w' =>
    ∃ g c', e = .returned (.slice (some ⟨g, 0, none⟩) 4 c') ∧ 4 ≤ c' ∧ OFl w' w.heap.size w'.heap.size (some ⟨g, 0, none⟩) flashNew ∧ Below w.heap.size w w' := by
  obtain ⟨ib, hib, hbz0, hbz1, hbz2⟩ := info_parts Try.info3_block
  have hmk := make_pages
  have hb0 : Bld w.heap.size (w.alloc (.cells #[] 137)) w.heap.size 0 0 (flashNew.take 0) [] :=
    ⟨World.ownsRow_lit w #[] 0 (Nat.le_refl _) (by unfold maxLen; omega) rfl, ⟨rfl, Row.nil _ _, fun _ _ _ h _ => absurd h (by simp)⟩, ⟨fun b hb => by rw [blk_some] at hb; simp; omega, fun _ _ _ h _ => absurd h (by simp), fun _ _ _ _ _ h _ _ _ => absurd h (by simp)⟩⟩
  have hB0 : Below w.heap.size w (w.alloc (.cells #[] 137)) := (Below.refl _ _).alloc (Nat.le_refl _) _
  go_enter Try.func136, Try.ntmps136
  go_wp2
  go_loopw [1, 2] (fun v i wr => ∃ (k g c : Nat) (ks : List (Option Addr × Nat)), k ≤ 4 ∧ i = .int .i64 k ∧ v = .slice (some ⟨g, 0, none⟩) k c ∧ Below w.heap.size w wr ∧ Bld w.heap.size wr g k c (flashNew.take k) ks ∧ k ≤ c) (fun _ i _ => 4 - (intOf i).toNat)
  case atStart => exact ⟨0, _, 0, [], by omega, rfl, rfl, hB0, hb0, Nat.le_refl _⟩
  case round =>
    clear hb0 hB0
    obtain ⟨k, g, c, ks, hk, rfl, rfl, hb, hBd, hkc⟩ := hrel
    by_cases hlt : k < 4
    · have hown := hBd.own
      have hsz := hb.size
      have hgl := hBd.apt.top g (by rw [blk_some])
      have hR1 : Row (wr.alloc (.cells #[.int .i64 0, .int .i64 0, .int .i64 0, .int .i64 0, .int .i64 0, .int .i64 0, .int .i64 0, .int .i64 0, .int .i64 0, .int .i64 0, .int .i64 0, .int .i64 0, .int .i64 0, .int .i64 0, .int .i64 0, .int .i64 0, .int .i64 0, .int .i64 0, .int .i64 0, .int .i64 0] 119)) (some ⟨wr.heap.size, 0, none⟩) (pgs (List.replicate 4 pg0)) := Row.new wr #[.int .i64 0, .int .i64 0, .int .i64 0, .int .i64 0, .int .i64 0, .int .i64 0, .int .i64 0, .int .i64 0, .int .i64 0, .int .i64 0, .int .i64 0, .int .i64 0, .int .i64 0, .int .i64 0, .int .i64 0, .int .i64 0, .int .i64 0, .int .i64 0, .int .i64 0, .int .i64 0] _
      obtain ⟨W, hW⟩ : ∃ W, wr.alloc (.cells #[.int .i64 0, .int .i64 0, .int .i64 0, .int .i64 0, .int .i64 0, .int .i64 0, .int .i64 0, .int .i64 0, .int .i64 0, .int .i64 0, .int .i64 0, .int .i64 0, .int .i64 0, .int .i64 0, .int .i64 0, .int .i64 0, .int .i64 0, .int .i64 0, .int .i64 0, .int .i64 0] 119) = W := ⟨_, rfl⟩
      have hownW := hown.alloc (.cells #[.int .i64 0, .int .i64 0, .int .i64 0, .int .i64 0, .int .i64 0, .int .i64 0, .int .i64 0, .int .i64 0, .int .i64 0, .int .i64 0, .int .i64 0, .int .i64 0, .int .i64 0, .int .i64 0, .int .i64 0, .int .i64 0, .int .i64 0, .int .i64 0, .int .i64 0, .int .i64 0] 119)
      have hbW : Below wr.heap.size wr W := hW ▸ (Below.refl _ _).alloc (Nat.le_refl _) _
      have hsW : W.heap.size = wr.heap.size + 1 := by rw [← hW]; simp
      have hmkW := hmk wr
      rw [hW] at hR1 hownW hmkW
      have HSW := Lib.hid hsW
      have HK := Lib.hid hmk
      clear hmk hW hsW
      go_wp2_with (at_builtin; refine wpList_append_lies _ rfl (.tmp 8) (.tmp 11) _ rfl w.heap.size 137 ib _ 2 32 Try.underlying23 hib hbz0 hbz1 hbz2 rfl (by omega) (.slice (some ⟨g, 0, none⟩) k c) k (hdrs (flashNew.take k) ks) rfl (hownW.alloc (.cells #[.slice (some ⟨wr.heap.size, 0, none⟩) 4 4, .int .i64 0] 137)) ⟨W.heap.size, 0, none⟩ 1 1 [.slice (some ⟨wr.heap.size, 0, none⟩) 4 4, .int .i64 0] rfl rfl (World.news_of_block (cs := #[.slice (some ⟨wr.heap.size, 0, none⟩) 4 4, .int .i64 0]) (t := 137) (fr := (0, 0)) (heap_alloc_new W _)) (by simp [Value.oneCell']) (by omega) (by unfold maxLen; omega) (by omega) (by have := HSW.out; simp; omega) (W.heap.size + 1) (by simp) ?_; intro g2 c2 w2 hown2 hgrow2 hat2 hlt2)
      have hstep := hBd.step (b := newBlock) (c1 := 4) (n := 4) (by rfl) hsz hR1 (Nat.le_refl _) (Nat.le_refl _) (by have := HSW.out; omega) hbW hown2 hgrow2 hat2 hlt2
      rw [show flashNew.take k ++ [newBlock] = flashNew.take (k + 1) from by rw [List.take_add_one, show flashNew[k]? = some newBlock by rw [flashNew, List.getElem?_replicate, if_pos hlt]]; rfl] at hstep
      have hcap := ownsRow_cap hown2
      have hB2 := hb.trans (((hbW.mono hsz).alloc (by have := HSW.out; omega) _).grown hgrow2 (by have := HSW.out; simp; omega) (by intro q e; cases e; exact hgl.1))
      go_roundw
      case rel => exact ⟨k + 1, g2, c2, _, by omega, by go_num, rfl, hB2, hstep, hcap⟩
      case measure => simp [intOf]; omega
    · obtain rfl : k = 4 := by omega
      go_wp2
      go_ret
      exact ⟨g, c, rfl, hkc, ⟨ks, hBd.bks, hBd.apt⟩, hb⟩

/-- a store to a header's second cell: the wear -/
theorem wrote_worn {w : World} {g o i : Nat} {f : List Bk} {hs : List (Option Addr × Nat)} {b : Bk} {x : Option Addr × Nat} (h : Bks w (some ⟨g, o, none⟩) f hs) (hi : f[i]? = some b) (hx : hs[i]? = some x) (n : Int) :
    Wrote w (w.setCell ⟨g, o + i * 2 + 1, none⟩ (.int .i64 n)) g (o + i * 2) [.slice x.1 b.pages.length x.2, .int .i64 n] := by
  obtain ⟨y, hy, c0, c1, _⟩ := h.at_ hi
  rw [hx] at hy; cases hy
  exact (wrote_one c1 (.int .i64 n)).less c0
def wipeR (f : List Bk) (i : Nat) (torn : Bool) : List Bk × Bool := if 200 ≤ (f.getD i zbk).worn then (f, false) else (wipe f i torn, true)
set_option maxRecDepth 100000 in
theorem spec_l2Wipe' (f : List Bk) (i lo hi g o c : Nat) (torn : Bool) (w : World) (hl : f.length = 4) (hp : ∀ b ∈ f, b.pages.length = 4 ∧ 0 ≤ b.worn ∧ b.worn ≤ 200) (hi4 : i < 4) (hs : List (Option Addr × Nat)) (hBk : Bks w (some ⟨g, o, none⟩) f hs) (hApt : Apt lo hi (some ⟨g, o, none⟩) hs) :
    Calls Try.prog 158 #[.slice (some ⟨g, o, none⟩) 4 c, .int .i64 i, .bool torn] w fun e w' =>
      e = .returned (.tuple #[.slice (some ⟨g, o, none⟩) 4 c, .bool (wipeR f i torn).2]) ∧ Bks w' (some ⟨g, o, none⟩) (wipeR f i torn).1 hs ∧ Agr (fblk (some ⟨g, o, none⟩) hs) w w' := by
  obtain ⟨B, hB⟩ := get_some (l := f) (k := i) (by omega)
  have hBm := hp B (List.mem_of_getElem? hB)
  have hBget : f.getD i zbk = B := by rw [List.getD_eq_getElem?_getD, hB]; rfl
  obtain ⟨x, hx, z0, z1, z2, z3, hR, _⟩ := hBk.at_ hB
  obtain ⟨hw1, hw2, hw3⟩ := hBm
  have hg := hApt.top g (by rw [blk_some])
  have hi4' : (i : Int) < 4 := by omega
  have hi0 : (0 : Int) ≤ i := by omega
  by_cases h200 : 200 ≤ B.worn
  · have hfin : Hid (wipeR f i torn = (f, false)) := by unfold Hid wipeR; rw [hBget, if_pos h200]
    clear hl hp hBget hw1
    go_enter Try.func158, Try.ntmps158
    go_wp2
    go_ret2
    rw [hfin.out]
    exact ⟨rfl, hBk, Agr.refl _ _⟩
  · have hfin : Hid (wipeR f i torn = (wipe f i torn, true)) := by unfold Hid wipeR; rw [hBget, if_neg h200]
    have hlt : B.worn < 200 := by omega
    obtain ⟨⟨pb, po, hpa⟩, hpb⟩ : (∃ pb po, x.1 = some ⟨pb, po, none⟩) ∧ True := ⟨hR.addr (pgs_ne (by intro e; rw [e] at hw1; simp at hw1)), trivial⟩
    obtain ⟨A, cp⟩ := x
    dsimp only at hpa
    subst hpa
    dsimp only at *
    have hW := wrote_worn hBk hB hx (B.worn + 1)
    have hBk1 := hBk.setHdr hApt hB hx hW
    have hpin := hApt.in_ i _ pb hx (by rw [blk_some])
    rw [blk_some] at hpin
    have hW1 := Lib.hid hW.agr
    have HX := Lib.hid hx
    have HL := Lib.hid hl
    have HB := Lib.hid hB
    have HG := Lib.hid hBget
    have HW1 := Lib.hid hw1
    rw [hw1] at z0
    have hz0' := hW.new_ 0 _ rfl
    rw [Nat.add_zero, hw1] at hz0'
    clear hl hp hB hBget hx hw1 hpb hW
    go_enter Try.func158, Try.ntmps158
    cases torn
    · go_wp2
      go_loopw [9] (fun q wr => ∃ (k : Nat), k ≤ 4 ∧ q = .int .i64 k ∧ Bks wr (some ⟨g, o, none⟩) (f.set i ⟨List.replicate k ⟨0, rc0⟩ ++ B.pages.drop k, B.worn + 1⟩) hs ∧ Agr (fblk (some ⟨g, o, none⟩) hs) w wr ∧ wr.cell? ⟨g, o + i * 2, none⟩ = some (.slice (some ⟨pb, po, none⟩) 4 cp)) (fun q _ => 4 - (intOf q).toNat)
      case atStart => exact ⟨0, by omega, rfl, hBk1, (Agr.refl _ _).trans hW1.out (fun k _ e => .inl (by rw [e, blk_some])), hz0'⟩
      case round =>
        clear hBk1 hz0'
        obtain ⟨k, hk, rfl, hBk2, hA, hz⟩ := hrel
        by_cases hltk : k < 4
        · have hk4' : (k : Int) < 4 := by omega
          have hget : (f.set i ⟨List.replicate k ⟨0, rc0⟩ ++ B.pages.drop k, B.worn + 1⟩)[i]? = some ⟨List.replicate k ⟨0, rc0⟩ ++ B.pages.drop k, B.worn + 1⟩ := by rw [List.getElem?_set_self (by have := HL.out; omega)]
          obtain ⟨hr2, _⟩ := hBk2.pg i _ _ hget HX.out
          obtain ⟨q, hq⟩ := get_some (l := List.replicate k (⟨0, rc0⟩ : Pg) ++ B.pages.drop k) (k := k) (by have := HW1.out; simp; omega)
          obtain ⟨c0, c1, c2, c3, c4⟩ := hr2.pg hq
          obtain ⟨f0, f1, f2, f3, f4⟩ := hr2.pgf hq
          have hWp := wrote_page hr2 hq ⟨0, rc0⟩
          have hBk3 := hBk2.setPage hApt hget HX.out (by have := HW1.out; simp; omega) hWp
          rw [List.set_set] at hBk3
          dsimp only at hBk3
          rw [fill_step _ _ _ (by have := HW1.out; omega)] at hBk3
          have hA3 := hA.trans hWp.agr (fun j _ e => .inr ⟨i, _, HX.out, by rw [e, blk_some]⟩)
          have hz3 := (hWp.block g (by omega))
          have HQ := Lib.hid hq
          have HGT := Lib.hid hget
          have hz4 := (World.cell?_of_block (a := ⟨g, o + i * 2, none⟩) hz3).trans hz
          simp only [rc0] at hBk3 hA3 hz4
          clear hq hget hz3 hWp
          go_wp2
          go_roundw
          case rel => exact ⟨k + 1, by omega, by go_num, hBk3, hA3, hz4⟩
          case measure => simp [intOf]; omega
        · obtain rfl : k = 4 := by omega
          go_wp2
          go_ret2
          rw [hfin.out]
          rw [show B.pages.drop 4 = [] from List.drop_of_length_le (by have := HW1.out; omega), List.append_nil] at hBk2
          exact ⟨rfl, by unfold wipe; rw [HG.out]; exact hBk2, hA⟩
    · go_wp2
      go_loopw [9] (fun q wr => ∃ (k : Nat), k ≤ 4 ∧ q = .int .i64 k ∧ Bks wr (some ⟨g, o, none⟩) (f.set i ⟨List.replicate k ⟨2, rc0⟩ ++ B.pages.drop k, B.worn + 1⟩) hs ∧ Agr (fblk (some ⟨g, o, none⟩) hs) w wr ∧ wr.cell? ⟨g, o + i * 2, none⟩ = some (.slice (some ⟨pb, po, none⟩) 4 cp)) (fun q _ => 4 - (intOf q).toNat)
      case atStart => exact ⟨0, by omega, rfl, hBk1, (Agr.refl _ _).trans hW1.out (fun k _ e => .inl (by rw [e, blk_some])), hz0'⟩
      case round =>
        clear hBk1 hz0'
        obtain ⟨k, hk, rfl, hBk2, hA, hz⟩ := hrel
        by_cases hltk : k < 4
        · have hk4' : (k : Int) < 4 := by omega
          have hget : (f.set i ⟨List.replicate k ⟨2, rc0⟩ ++ B.pages.drop k, B.worn + 1⟩)[i]? = some ⟨List.replicate k ⟨2, rc0⟩ ++ B.pages.drop k, B.worn + 1⟩ := by rw [List.getElem?_set_self (by have := HL.out; omega)]
          obtain ⟨hr2, _⟩ := hBk2.pg i _ _ hget HX.out
          obtain ⟨q, hq⟩ := get_some (l := List.replicate k (⟨2, rc0⟩ : Pg) ++ B.pages.drop k) (k := k) (by have := HW1.out; simp; omega)
          obtain ⟨c0, c1, c2, c3, c4⟩ := hr2.pg hq
          obtain ⟨f0, f1, f2, f3, f4⟩ := hr2.pgf hq
          have hWp := wrote_page hr2 hq ⟨2, rc0⟩
          have hBk3 := hBk2.setPage hApt hget HX.out (by have := HW1.out; simp; omega) hWp
          rw [List.set_set] at hBk3
          dsimp only at hBk3
          rw [fill_step _ _ _ (by have := HW1.out; omega)] at hBk3
          have hA3 := hA.trans hWp.agr (fun j _ e => .inr ⟨i, _, HX.out, by rw [e, blk_some]⟩)
          have hz3 := (hWp.block g (by omega))
          have HQ := Lib.hid hq
          have HGT := Lib.hid hget
          have hz4 := (World.cell?_of_block (a := ⟨g, o + i * 2, none⟩) hz3).trans hz
          simp only [rc0] at hBk3 hA3 hz4
          clear hq hget hz3 hWp
          go_wp2
          go_roundw
          case rel => exact ⟨k + 1, by omega, by go_num, hBk3, hA3, hz4⟩
          case measure => simp [intOf]; omega
        · obtain rfl : k = 4 := by omega
          go_wp2
          go_ret2
          rw [hfin.out]
          rw [show B.pages.drop 4 = [] from List.drop_of_length_le (by have := HW1.out; omega), List.append_nil] at hBk2
          exact ⟨rfl, by unfold wipe; rw [HG.out]; exact hBk2, hA⟩
theorem wipeR_eq {f : List Bk} {i : Nat} {torn : Bool} (hok : flashOk f = true) (hi : i < 4) : flashWipe f i torn = wipeR f i torn := by
  have hl := flashOk_len hok
  obtain ⟨B, hB⟩ := get_some (l := f) (k := i) (by omega)
  have hs := flashOk_shape hok B (List.mem_of_getElem? hB)
  have hBget : f.getD i zbk = B := by rw [List.getD_eq_getElem?_getD, hB]; rfl
  unfold flashWipe wipeR
  rw [if_neg (by rw [hok]; unfold blockB; simp; omega), Int.toNat_natCast, hBget]
  by_cases h : B.worn = 200
  · rw [if_pos h, if_pos (by omega)]
  · rw [if_neg h, if_neg (by omega)]
theorem wipeR_len (f : List Bk) (i : Nat) (torn : Bool) : (wipeR f i torn).1.length = f.length := by
  unfold wipeR wipe
  split <;> simp
end Go.Proofs.Ytbekihiiildgmaa
namespace Go.Proofs.Ytbekihiiildgmaa
set_option linter.unusedVariables false
set_option linter.unusedSimpArgs false
def writeR (f : List Bk) (i : Nat) (r : Rc) (torn : Bool) : List Bk × Bool :=
  if clean (f.getD i zbk) = 0 ∨ seqIn f r.seq = true then (f, false)
  else (f.set i { f.getD i zbk with pages := (f.getD i zbk).pages.set (4 - clean (f.getD i zbk)) (if torn then ⟨2, rc0⟩ else ⟨1, r⟩) }, true)
def dirty (f : List Bk) (a : Int) : Bool := decide (0 < (last f a).seq) && decide ((last f a).kind = 1)
def readV (s : St) (a : Int) : Int := if 0 < (last s.flash a).seq then (last s.flash a).val else s.disk.getD (a - 1).toNat 0
def told (f : List Bk) (p : Pg) : Bool := live f p && decide (p.rc.kind = 1)
def tellP (p : Pg) : Sp := ⟨1, p.rc.addr, p.rc.val, 0, rc0⟩
def tells (f : List Bk) (ps : List Pg) : List Sp := (ps.filter (told f)).map tellP
/-- steps that make room, the block, and whether there is any -/
def room (f : List Bk) : List Sp × Int × Bool :=
  if (openB f).2 then ([], (openB f).1, true)
  else (tells f (f.getD (old f) zbk).pages ++ [⟨2, 0, 0, old f, rc0⟩], old f, decide ((f.getD (old f) zbk).worn < 200))
def wr (f : List Bk) (kind addr val : Int) : List Sp :=
  if (room f).2.2 = false ∨ recOk ⟨kind, next f, addr, val⟩ = false then [] else (room f).1 ++ [⟨3, 0, 0, (room f).2.1, ⟨kind, next f, addr, val⟩⟩]
def flush (s : St) (a : Int) : List Sp :=
  if addrB a = false ∨ dirty s.flash a = false then [] else
  if wr s.flash 2 a (readV s a) = [] then [] else ⟨1, a, readV s a, 0, rc0⟩ :: wr s.flash 2 a (readV s a)
def fill (s : St) (a : Int) : List Sp :=
  if addrB a = false ∨ 0 < (last s.flash a).seq then [] else wr s.flash 2 a (s.disk.getD (a - 1).toNat 0)
def stepsOf (s : St) (e : Ev) : List Sp :=
  if e.kind = 1 then wr s.flash 1 e.a e.b else if e.kind = 2 then flush s e.a else if e.kind = 3 then fill s e.a else []
def doStep (s : St) (x : Sp) (torn : Bool) : St :=
  if x.kind = 1 then (if torn then s else { s with disk := s.disk.set (x.addr - 1).toNat x.val })
  else if x.kind = 2 then { s with flash := (wipeR s.flash x.block.toNat torn).1 }
  else if x.kind = 3 then { s with flash := (writeR s.flash x.block.toNat x.rc torn).1 } else s
def doAllOf (s : St) (xs : List Sp) : St := xs.foldl (fun s x => doStep s x false) s
def doTo (s : St) (xs : List Sp) (cut : Int) (torn : Bool) : St :=
  if torn = true ∧ 0 ≤ cut ∧ cut < xs.length then doStep (doAllOf s (xs.take cut.toNat)) (xs.getD cut.toNat ⟨0, 0, 0, 0, rc0⟩) true else doAllOf s (xs.take cut.toNat)
def doFlush (s : St) (a : Int) : St := doTo s (flush s a) (flush s a).length false
def doEvery (s : St) : St := [1, 2, 3, 4, 5, 6].foldl doFlush s
def doEv (s : St) (e : Ev) : St := if e.kind = 4 then doEvery s else if e.c < 0 then s else doTo s (stepsOf s e) e.c e.torn
def bkFine (b : Bk) : Prop := b.pages.length = 4 ∧ 0 ≤ b.worn ∧ b.worn ≤ 200 ∧ ∀ p ∈ b.pages, pageOk p = true
def flFine (f : List Bk) : Prop := f.length = 4 ∧ ∀ b ∈ f, bkFine b
def stFine (s : St) : Prop := flFine s.flash ∧ s.disk.length = 6 ∧ ∀ v ∈ s.disk, 0 ≤ v ∧ v ≤ 9
/-- a step that can be done -/
def spFine (x : Sp) : Prop := (x.kind = 1 → 1 ≤ x.addr ∧ x.addr ≤ 6 ∧ 0 ≤ x.val ∧ x.val ≤ 9) ∧ (x.kind = 2 ∨ x.kind = 3 → 0 ≤ x.block ∧ x.block < 4) ∧ (x.kind = 3 → recOk x.rc = true)
end Go.Proofs.Ytbekihiiildgmaa
namespace Go.Proofs.Ytbekihiiildgmaa
set_option linter.unusedVariables false
set_option linter.unusedSimpArgs false
theorem mem_set {α : Type} {l : List α} {i : Nat} {x y : α} (h : y ∈ l.set i x) : y ∈ l ∨ y = x := List.mem_or_eq_of_mem_set h
theorem pg0_ok : pageOk ⟨0, rc0⟩ = true := by decide
theorem torn_ok : pageOk ⟨2, rc0⟩ = true := by decide
theorem put_ok {r : Rc} (h : recOk r = true) : pageOk ⟨1, r⟩ = true := by unfold pageOk; simpa using h
theorem flFine_get {f : List Bk} (h : flFine f) {i : Nat} (hi : i < 4) : bkFine (f.getD i zbk) := by
  have hl : i < f.length := by have := h.1; omega
  rw [List.getD_eq_getElem?_getD, List.getElem?_eq_getElem hl]
  exact h.2 _ (List.getElem_mem hl)
theorem flFine_set {f : List Bk} {b : Bk} (h : flFine f) (hb : bkFine b) (i : Nat) : flFine (f.set i b) :=
  ⟨by rw [List.length_set]; exact h.1, fun c hc => by rcases mem_set hc with hc | rfl; exact h.2 c hc; exact hb⟩
theorem wipeR_fine {f : List Bk} (h : flFine f) {i : Nat} (hi : i < 4) (torn : Bool) : flFine (wipeR f i torn).1 := by
  have hb := flFine_get h hi
  unfold wipeR wipe
  split
  · exact h
  · rename_i hw
    refine flFine_set h ⟨by simp, by have := hb.2.1; show 0 ≤ (f.getD i zbk).worn + 1; omega, by show (f.getD i zbk).worn + 1 ≤ 200; omega, fun p hp => ?_⟩ i
    have := List.eq_of_mem_replicate hp
    subst this
    cases torn
    · exact pg0_ok
    · exact torn_ok
theorem writeR_fine {f : List Bk} (h : flFine f) {i : Nat} (hi : i < 4) {r : Rc} (hr : recOk r = true) (torn : Bool) : flFine (writeR f i r torn).1 := by
  have hb := flFine_get h hi
  unfold writeR
  split
  · exact h
  · have key : bkFine ⟨(f.getD i zbk).pages.set (4 - clean (f.getD i zbk)) (if torn then ⟨2, rc0⟩ else ⟨1, r⟩), (f.getD i zbk).worn⟩ := by
      refine ⟨by show ((f.getD i zbk).pages.set _ _).length = 4; rw [List.length_set]; exact hb.1, hb.2.1, hb.2.2.1, fun p hp => ?_⟩
      rcases mem_set hp with hp | rfl
      · exact hb.2.2.2 p hp
      · cases torn
        · exact put_ok hr
        · exact torn_ok
    exact flFine_set h key i
theorem doStep_fine {s : St} {x : Sp} (hs : stFine s) (hx : spFine x) (torn : Bool) : stFine (doStep s x torn) := by
  obtain ⟨h1, h2, h3⟩ := hs
  obtain ⟨x1, x2, x3⟩ := hx
  unfold doStep
  split
  · rename_i hk
    split
    · exact ⟨h1, h2, h3⟩
    · refine ⟨h1, by rw [List.length_set]; exact h2, fun v hv => ?_⟩
      rcases mem_set hv with hv | rfl
      · exact h3 v hv
      · exact ⟨(x1 hk).2.2.1, (x1 hk).2.2.2⟩
  · split
    · rename_i hk
      have := x2 (.inl hk)
      exact ⟨wipeR_fine h1 (by omega) torn, h2, h3⟩
    · split
      · rename_i hk
        have := x2 (.inr hk)
        exact ⟨writeR_fine h1 (by omega) (x3 hk) torn, h2, h3⟩
      · exact ⟨h1, h2, h3⟩
theorem doAllOf_fine : ∀ {xs : List Sp} {s : St}, stFine s → (∀ x ∈ xs, spFine x) → stFine (doAllOf s xs)
  | [], _, hs, _ => hs
  | x :: xs, s, hs, hx => doAllOf_fine (xs := xs) (s := doStep s x false) (doStep_fine hs (hx x (List.mem_cons_self ..)) false) (fun y hy => hx y (List.mem_cons_of_mem _ hy))
theorem doTo_fine {s : St} {xs : List Sp} (hs : stFine s) (hx : ∀ x ∈ xs, spFine x) (cut : Int) (torn : Bool) : stFine (doTo s xs cut torn) := by
  have h1 := doAllOf_fine (xs := xs.take cut.toNat) hs (fun x h => hx x (List.mem_of_mem_take h))
  unfold doTo
  split
  · rename_i h
    refine doStep_fine h1 ?_ true
    have hl : cut.toNat < xs.length := by omega
    rw [List.getD_eq_getElem?_getD, List.getElem?_eq_getElem hl]
    exact hx _ (List.getElem_mem hl)
  · exact h1
theorem rec_of_written {p : Pg} (h : pageOk p = true) (h1 : p.state = 1) : recOk p.rc = true := by unfold pageOk at h; rw [if_pos h1] at h; exact h
theorem recOk_addr {r : Rc} (h : recOk r = true) : 1 ≤ r.addr ∧ r.addr ≤ 6 ∧ 0 ≤ r.val ∧ r.val ≤ 9 ∧ 1 ≤ r.seq ∧ r.seq ≤ 600 := by
  unfold recOk addrB valB at h
  simp at h
  omega
theorem told_fine {f : List Bk} {p : Pg} (hp : pageOk p = true) (h : told f p = true) : spFine (tellP p) := by
  unfold told live at h
  simp at h
  have := recOk_addr (rec_of_written hp h.1.1)
  exact ⟨fun _ => by unfold tellP; exact ⟨this.1, this.2.1, this.2.2.1, this.2.2.2.1⟩, fun h => by unfold tellP at h; simp at h, fun h => by unfold tellP at h; simp at h⟩
theorem openGo_range {f : List Bk} (h0 : 0 < f.length) : ∀ (r : List Bk) (i : Nat) (out : Int), i + r.length = f.length → -1 ≤ out → out < f.length → 0 ≤ (openGo f i out r).1 ∧ (openGo f i out r).1 < f.length
  | [], i, out, _, h1, h2 => by unfold openGo; dsimp only; omega
  | b :: r, i, out, hi, h1, h2 => by
    rw [List.length_cons] at hi
    unfold openGo
    split
    · dsimp only; omega
    · split
      · exact openGo_range h0 r _ _ (by omega) (by omega) (by omega)
      · exact openGo_range h0 r _ _ (by omega) h1 h2
theorem openB_range {f : List Bk} (h : f.length = 4) : 0 ≤ (openB f).1 ∧ (openB f).1 < 4 := by
  have := openGo_range (f := f) (by omega) f 0 (-1) (by omega) (by omega) (by omega)
  rw [h] at this
  exact this
theorem oldGo_lt {f : List Bk} : ∀ (r : List Bk) (i out : Nat), i + r.length = f.length → out < f.length → oldGo f i out r < f.length
  | [], _, _, _, h => h
  | b :: r, i, out, hi, h => by
    rw [List.length_cons] at hi
    unfold oldGo
    split
    · exact oldGo_lt r _ _ (by omega) (by omega)
    · exact oldGo_lt r _ _ (by omega) h
theorem old_lt4 {f : List Bk} (h : f.length = 4) : old f < 4 := by
  have := oldGo_lt (f := f) (f.drop 1) 1 0 (by simp; omega) (by omega)
  rw [h] at this; exact this
theorem room_fine {f : List Bk} (h : flFine f) : (∀ x ∈ (room f).1, spFine x) ∧ 0 ≤ (room f).2.1 ∧ (room f).2.1 < 4 := by
  have h1 := openB_range h.1
  have h2 := old_lt4 h.1
  have hb := flFine_get h h2
  unfold room
  split
  · exact ⟨fun x hx => absurd hx (by simp), h1.1, h1.2⟩
  · refine ⟨fun x hx => ?_, by dsimp only; omega, by dsimp only; omega⟩
    rcases List.mem_append.1 hx with hx | hx
    · unfold tells at hx
      obtain ⟨p, hp, rfl⟩ := List.mem_map.1 hx
      obtain ⟨hp1, hp2⟩ := List.mem_filter.1 hp
      exact told_fine (hb.2.2.2 p hp1) hp2
    · rw [List.mem_singleton] at hx
      subst hx
      exact ⟨fun h => by simp at h, fun _ => by dsimp only; omega, fun h => by simp at h⟩
theorem wr_fine {f : List Bk} (h : flFine f) (k a v : Int) : ∀ x ∈ wr f k a v, spFine x := by
  intro x hx
  obtain ⟨h1, h2, h3⟩ := room_fine h
  unfold wr at hx
  split at hx
  · simp at hx
  · rename_i hn
    rcases List.mem_append.1 hx with hx | hx
    · exact h1 x hx
    · rw [List.mem_singleton] at hx
      subst hx
      refine ⟨fun h => by simp at h, fun _ => ⟨h2, h3⟩, fun _ => ?_⟩
      dsimp only
      rcases Bool.eq_false_or_eq_true (recOk ⟨k, next f, a, v⟩) with h | h
      · exact h
      · exact absurd (.inr h) hn
theorem lastPs_inv {a : Int} : ∀ {ps : List Pg} {o : Rc}, (∀ p ∈ ps, pageOk p = true) → (o = rc0 ∨ (recOk o = true ∧ o.addr = a)) → (lastPs a o ps = rc0 ∨ (recOk (lastPs a o ps) = true ∧ (lastPs a o ps).addr = a))
  | [], _, _, h => h
  | p :: ps, o, hp, h => by
    refine lastPs_inv (ps := ps) (o := lastStep a o p) (fun q hq => hp q (List.mem_cons_of_mem _ hq)) ?_
    unfold lastStep
    split
    · rename_i hh
      exact .inr ⟨rec_of_written (hp p (List.mem_cons_self ..)) hh.1, hh.2.1⟩
    · exact h
theorem last_inv {f : List Bk} (h : ∀ b ∈ f, ∀ p ∈ b.pages, pageOk p = true) (a : Int) : last f a = rc0 ∨ (recOk (last f a) = true ∧ (last f a).addr = a) := by
  have key : ∀ (g : List Bk) (o : Rc), (∀ b ∈ g, ∀ p ∈ b.pages, pageOk p = true) → (o = rc0 ∨ (recOk o = true ∧ o.addr = a)) → (g.foldl (fun o b => lastPs a o b.pages) o = rc0 ∨ (recOk (g.foldl (fun o b => lastPs a o b.pages) o) = true ∧ (g.foldl (fun o b => lastPs a o b.pages) o).addr = a)) := by
    intro g
    induction g with
    | nil => intro o _ h; exact h
    | cons b g ih => intro o hg h; exact ih _ (fun c hc => hg c (List.mem_cons_of_mem _ hc)) (lastPs_inv (hg b (List.mem_cons_self ..)) h)
  exact key f rc0 h (.inl rfl)
theorem last_found {f : List Bk} (h : ∀ b ∈ f, ∀ p ∈ b.pages, pageOk p = true) {a : Int} (h0 : 0 < (last f a).seq) : recOk (last f a) = true ∧ (last f a).addr = a := by
  rcases last_inv h a with h1 | h1
  · rw [h1] at h0; exact absurd h0 (by decide)
  · exact h1
theorem disk_get {xs : List Int} (h : xs.length = 6) (hv : ∀ v ∈ xs, 0 ≤ v ∧ v ≤ 9) {i : Nat} (hi : i < 6) : 0 ≤ xs.getD i 0 ∧ xs.getD i 0 ≤ 9 := by
  have hl : i < xs.length := by omega
  rw [List.getD_eq_getElem?_getD, List.getElem?_eq_getElem hl]
  exact hv _ (List.getElem_mem hl)
theorem flFine_pages {f : List Bk} (h : flFine f) : ∀ b ∈ f, ∀ p ∈ b.pages, pageOk p = true := fun b hb => (h.2 b hb).2.2.2
theorem readV_fine {s : St} (h : stFine s) {a : Int} (h1 : 1 ≤ a) (h2 : a ≤ 6) : 0 ≤ readV s a ∧ readV s a ≤ 9 := by
  unfold readV
  split
  · rename_i h0
    have := recOk_addr (last_found (flFine_pages h.1) h0).1
    omega
  · exact disk_get h.2.1 h.2.2 (by omega)
theorem flush_fine {s : St} (h : stFine s) (a : Int) : ∀ x ∈ flush s a, spFine x := by
  intro x hx
  unfold flush at hx
  split at hx
  · simp at hx
  · rename_i hn
    split at hx
    · simp at hx
    · have ha : addrB a = true := by
        rcases Bool.eq_false_or_eq_true (addrB a) with h | h
        · exact h
        · exact absurd (.inl h) hn
      have ha2 : 1 ≤ a ∧ a ≤ 6 := by unfold addrB at ha; simpa using ha
      rcases List.mem_cons.1 hx with rfl | hx
      · have := readV_fine h ha2.1 ha2.2
        exact ⟨fun _ => ⟨ha2.1, ha2.2, this.1, this.2⟩, fun h => by simp at h, fun h => by simp at h⟩
      · exact wr_fine h.1 _ _ _ x hx
theorem fill_fine {s : St} (h : stFine s) (a : Int) : ∀ x ∈ fill s a, spFine x := by
  intro x hx
  unfold fill at hx
  split at hx
  · simp at hx
  · exact wr_fine h.1 _ _ _ x hx
theorem stepsOf_fine {s : St} (h : stFine s) (e : Ev) : ∀ x ∈ stepsOf s e, spFine x := by
  intro x hx
  unfold stepsOf at hx
  split at hx
  · exact wr_fine h.1 _ _ _ x hx
  · split at hx
    · exact flush_fine h _ x hx
    · split at hx
      · exact fill_fine h _ x hx
      · simp at hx
theorem doFlush_fine {s : St} (h : stFine s) (a : Int) : stFine (doFlush s a) := doTo_fine h (flush_fine h a) _ _
theorem doEvery_fine {s : St} (h : stFine s) : stFine (doEvery s) := by
  have key : ∀ (l : List Int) (s : St), stFine s → stFine (l.foldl doFlush s) := by
    intro l
    induction l with
    | nil => intro s h; exact h
    | cons a l ih => intro s h; exact ih _ (doFlush_fine h a)
  exact key _ s h
theorem doEv_fine {s : St} (h : stFine s) (e : Ev) : stFine (doEv s e) := by
  unfold doEv
  split
  · exact doEvery_fine h
  · split
    · exact h
    · exact doTo_fine h (stepsOf_fine h e) _ _
theorem pageOk_seq {p : Pg} (h : pageOk p = true) : p.rc.seq ≤ 600 := by
  unfold pageOk at h
  split at h
  · exact (recOk_addr h).2.2.2.2.2
  · split at h
    · have : p.rc = rc0 := by simpa using h
      rw [this]; decide
    · cases h
theorem mostPs_le : ∀ {ps : List Pg} {n : Int}, (∀ p ∈ ps, pageOk p = true) → n ≤ 600 → mostPs n ps ≤ 600
  | [], _, _, h => h
  | p :: ps, n, hp, h => mostPs_le (ps := ps) (n := max n p.rc.seq) (fun q hq => hp q (List.mem_cons_of_mem _ hq)) (by have := pageOk_seq (hp p (List.mem_cons_self ..)); omega)
theorem most_small {f : List Bk} (h : flFine f) : ∀ b ∈ f, most b < 1000000000000 := fun b hb => by
  have : most b ≤ 600 := mostPs_le (flFine_pages h b hb) (by omega)
  omega
end Go.Proofs.Ytbekihiiildgmaa
namespace Go.Proofs.Ytbekihiiildgmaa
set_option linter.unusedVariables false
set_option linter.unusedSimpArgs false
open Go.RowKit Go.Shelf
attribute [local go_sem] Oper.semAt_some
set_option maxHeartbeats 400000
set_option maxHeartbeats 1000000 in
theorem eachPage_in (F : Fence) (n : Nat) (h : F.fn 94) (hro : F.round = none) (a : Option Addr) (len cap : Nat) (w : World) :
    CallsIn F n Try.prog 94 #[.slice a len cap] w fun e w' => e = .returned (.func (.func 141) #[] #[.pointer (some ⟨w.heap.size, 0, none⟩)]) ∧ w' = w.alloc (.cells #[.slice a len cap] 23) := by
  refine callsIn_of_wp Try.func94 rfl h ?_ hro
  simp only [Try.ntmps94, List.size_toArray, List.length_cons, List.length_nil, Nat.reduceAdd, Nat.reduceSub, Array.replicate_succ, Array.replicate_zero, List.push_toArray, List.append_toArray, List.nil_append, List.cons_append]
  gi_wp2
  go_ret
  exact ⟨rfl, rfl⟩
theorem eachPage_stops (F : Fence) (n : Nat) (hF : F.fn 141) (hro : F.round = none) (hn : 1 ≤ n) (Bs n₀ g o c : Nat) (f : List Bk) (hs : List (Option Addr × Nat)) (w : World) (hB : Bs < w.heap.size) (hn₀ : n₀ ≤ w.heap.size)
    (hBs : w.cell? ⟨Bs, 0, none⟩ = some (.slice (some ⟨g, o, none⟩) f.length c)) (hl : f.length < 1000000000000) (hp : ∀ b ∈ f, b.pages.length < 1000000000000)
    (hBk : Bks w (some ⟨g, o, none⟩) f hs) (hlow : ∀ b, fblk (some ⟨g, o, none⟩) hs b → b < n₀) :
    SeqStopsK F n Try.prog 141 #[.pointer (some ⟨Bs, 0, none⟩)] encP (Below n₀) (fun ys => ys = allFrom 0 f) (fun pre => pre <+: allFrom 0 f) (allFrom 0 f).length w := fun l J Jx W hW hJ _ hY h0 => by
  refine eachPage1_in F n hF hro hn l Bs n₀ g o c f hs J Jx W (Nat.le_trans hn₀ hW.size) hJ (fun pre x W1 h1 h2 _ => hY pre x W1 h1 h2) ((hW.cell (p := ⟨Bs, 0, none⟩) hB).trans hBs) hl hp (hBk.keep fun q hq hl => hW.block q (by omega)) hlow h0
/-- the greatest number of pages that have come -/
def bigStep (n : Int) (x : PgAt) : Int := if x.2.2.state = 1 then max n x.2.2.rc.seq else n
def bigOf (pre : List PgAt) : Int := pre.foldl bigStep 0
theorem bigOf_snoc (pre : List PgAt) (x : PgAt) : bigOf (pre ++ [x]) = bigStep (bigOf pre) x := by unfold bigOf; rw [List.foldl_append]; rfl
theorem mem_tag {i : Nat} {x : PgAt} : ∀ {ps : List Pg} {j : Nat}, x ∈ tagFrom i j ps → x.2.2 ∈ ps
  | [], _, h => by simp [tagFrom] at h
  | p :: ps, j, h => by
    rw [tagFrom] at h
    rcases List.mem_cons.1 h with rfl | h
    · exact List.mem_cons_self ..
    · exact List.mem_cons_of_mem _ (mem_tag h)
theorem mem_all {x : PgAt} : ∀ {f : List Bk} {i : Nat}, x ∈ allFrom i f → ∃ b ∈ f, x.2.2 ∈ b.pages
  | [], _, h => by simp [allFrom] at h
  | b :: f, i, h => by
    rw [allFrom] at h
    rcases List.mem_append.1 h with h | h
    · exact ⟨b, List.mem_cons_self .., mem_tag h⟩
    · obtain ⟨c, hc, hx⟩ := mem_all h
      exact ⟨c, List.mem_cons_of_mem _ hc, hx⟩
theorem big_range : ∀ {xs : List PgAt} {n : Int}, (∀ x ∈ xs, pageOk x.2.2 = true) → 0 ≤ n → n ≤ 600 → 0 ≤ xs.foldl bigStep n ∧ xs.foldl bigStep n ≤ 600
  | [], n, _, h1, h2 => ⟨h1, h2⟩
  | x :: xs, n, h, h1, h2 => by
    have hx := pageOk_seq (h x (List.mem_cons_self ..))
    refine big_range (xs := xs) (n := bigStep n x) (fun y hy => h y (List.mem_cons_of_mem _ hy)) ?_ ?_
    · unfold bigStep; split <;> omega
    · unfold bigStep; split <;> omega
theorem bigOf_range {f : List Bk} (h : flashOk f = true) : 0 ≤ bigOf (allFrom 0 f) ∧ bigOf (allFrom 0 f) ≤ 600 := by
  refine big_range (fun x hx => ?_) (by omega) (by omega)
  obtain ⟨b, hb, hx⟩ := mem_all hx
  have := blocksGo_true (f := f) (seen := []) (by unfold flashOk at h; simp at h; exact h.2) b hb
  exact this.2 _ hx
/-- cells laid in a block -/
def Laid (W : World) (B : Nat) (t : TypeId) (cs : Array Value) : Prop := W.heap[B]? = some (.cells cs t (0, 0))
theorem Laid.lt {W : World} {B : Nat} {t : TypeId} {cs : Array Value} (h : Laid W B t cs) : B < W.heap.size := (Array.getElem?_eq_some_iff.1 h).1
theorem Laid.cell {W : World} {B : Nat} {t : TypeId} {cs : Array Value} (h : Laid W B t cs) (i : Nat) {u : Value} (hu : cs[i]? = some u) : W.cell? ⟨B, i, none⟩ = some u := by simp [World.cell?, show W.heap[B]? = _ from h, hu]
theorem laid_own (B : Nat) (t : TypeId) (cs : Array Value) (n₀ : Nat) : OwnFrom n₀ (fun (_ : Unit) W => Laid W B t cs) := fun _ X Y row hs hg hr =>
  (hg.block B hs.lt (fun e' => by obtain ⟨_, o, ho, hc⟩ := hr B e'.symm; rw [show X.heap[B]? = _ from hs] at ho; cases ho; cases hc)).trans hs
def pgv (p : Pg) : Array Value := #[.int .i64 p.state, .int .i64 p.rc.kind, .int .i64 p.rc.seq, .int .i64 p.rc.addr, .int .i64 p.rc.val]
def findNext (f : List Bk) : Int := if flashOk f = true then bigOf (allFrom 0 f) + 1 else 0
set_option maxRecDepth 100000 in
set_option maxHeartbeats 4000000 in
theorem impl_FindNext (f : List Bk) (A : Option Addr) (n c : Nat) (w : World) (hn : n = f.length) (hF : Fl w A f) :
    Calls Try.prog 127 #[.slice A n c] w fun e w' => e = .returned (.int .i64 (findNext f)) ∧ Below w.heap.size w w' := by
  subst hn
  refine (callsIn_wide (n := 6)).1 ?_
  refine callsIn_of_wp_marks Try.func127 rfl trivial ?_ rfl
  simp only [Try.ntmps127, List.size_toArray, List.length_cons, List.length_nil, Nat.reduceAdd, Nat.reduceSub, Array.replicate_succ, Array.replicate_zero, List.push_toArray, List.append_toArray, List.nil_append, List.cons_append]
  by_cases hok : flashOk f = true
  · have hfl := flashOk_len hok
    have HFL := Lib.hid hfl
    have hfin : Hid (findNext f = bigOf (allFrom 0 f) + 1) := by unfold Hid findNext; rw [if_pos hok]
    have HP := Lib.hid (show ∀ b ∈ f, b.pages.length < 1000000000000 from fun b hb => by rw [(flashOk_shape hok b hb).1]; omega)
    obtain ⟨hs, hBk⟩ := hF
    have hFc := Lib.hid (impl_FlashOk f A c w ⟨hs, hBk⟩)
    rw [hok] at hFc
    have hrg := bigOf_range hok
    have HPL := Lib.hid (fun b hb => (flashOk_shape hok b hb).1)
    clear hfl hok
    gi_wp2_with (first | (refine ⟨trivial, ?_⟩; gi_at_call 93; refine (callsIn_wide.2 hFc.out).mono ?_; rintro e w1 ⟨rfl, hb1⟩) | (refine ⟨trivial, ?_⟩; gi_at_call 94; refine (eachPage_in Fence.wide _ trivial rfl _ _ _ _).mono ?_; rintro e w2 ⟨rfl, rfl⟩))
    obtain ⟨g, o, rfl⟩ := hBk.addr (by intro e; have := HFL.out; rw [e] at this; simp at this)
    have hlow : ∀ b, fblk (some ⟨g, o, none⟩) hs b → b < w1.heap.size := fun b hb => by
      have h4 := HFL.out
      have hs1 := hb1.size
      rcases hb with hb | ⟨i, x, hx, hb⟩
      · rw [blk_some] at hb
        subst hb
        obtain ⟨B, hB⟩ := get_some (l := f) (k := 0) (by omega)
        obtain ⟨_, _, c0, _⟩ := hBk.at_ hB
        have := lt_of_cell c0
        omega
      · obtain ⟨B, hB⟩ := get_some (l := f) (k := i) (by rw [← hBk.len]; exact (List.getElem?_eq_some_iff.1 hx).1)
        have hr := (hBk.pg i B x hB hx).1
        by_cases hn : B.pages = []
        · have := HPL.out B (List.mem_of_getElem? hB); rw [hn] at this; simp at this
        · obtain ⟨b', o', he, hc⟩ := hr (pgs_ne hn)
          rw [he, blk_some] at hb
          subst hb
          obtain ⟨q, hq⟩ := get_some (l := pgs B.pages) (k := 0) (by rw [pgs_len]; have := List.length_pos_iff.2 hn; omega)
          have := lt_of_cell (hc 0 q hq).1
          omega
    have hBk1 := hBk.below hb1 (Nat.le_refl _)
    have bS := (Boxed.new w1 3 (.int .i64 0)).alloc (.cells #[.slice (some ⟨g, o, none⟩) f.length c] 23)
    have bA := Boxed.new (w1.alloc (.cells #[.int .i64 0] 3)) 23 (.slice (some ⟨g, o, none⟩) f.length c)
    simp only [World.size_alloc] at bA
    have hB0 : Below w1.heap.size w1 ((w1.alloc (.cells #[.int .i64 0] 3)).alloc (.cells #[.slice (some ⟨g, o, none⟩) f.length c] 23)) := ((Below.refl _ w1).alloc (Nat.le_refl _) _).alloc (by simp) _
    have hsz : ((w1.alloc (.cells #[.int .i64 0] 3)).alloc (.cells #[.slice (some ⟨g, o, none⟩) f.length c] 23)).heap.size = w1.heap.size + 2 := by simp
    have hBk2 := (hBk1.alloc (.cells #[.int .i64 0] 3)).alloc (.cells #[.slice (some ⟨g, o, none⟩) f.length c] 23)
    obtain ⟨W0, hW0⟩ : ∃ W0, (w1.alloc (.cells #[.int .i64 0] 3)).alloc (.cells #[.slice (some ⟨g, o, none⟩) f.length c] 23) = W0 := ⟨_, rfl⟩
    rw [hW0] at bS bA hB0 hsz hBk2 ⊢
    have hl4 : f.length < 1000000000000 := by rw [HFL.out]; omega
    clear hW0 hBk hBk1
    refine wpIn_rangeFunc_ownH rfl (by omega) (gf := 141) (lb := #[.pointer (some ⟨w1.heap.size + 1, 0, none⟩)]) rfl trivial (enters_of Try.func141 (by kernel_rfl) rfl)
      (eachPage_stops Fence.wide _ trivial rfl (by omega) (w1.heap.size + 1) w1.heap.size g o c f hs W0 (by omega) (by omega) bA.cell hl4 HP.out hBk2 hlow) belowK_t (belowK_b (by omega)) (Below.refl _ _) (fun _ => rfl)
      (fun pre W => Boxed W w1.heap.size 3 (.int .i64 (bigOf pre)) ∧ Below w1.heap.size w1 W)
      (fun _ _ _ => False)
      (OwnFrom.and (Own.from (boxed_own _ _ _) _) (ownFrom_below (Nat.le_refl _) (by omega)))
      (fun _ _ _ _ _ hs _ _ => hs)
      ⟨bS, hB0⟩
      (fun x a' W => ∃ Bx, w1.heap.size < Bx ∧ Laid W Bx 119 (pgv x.2.2) ∧ a' = { tmps := #[.slice (some ⟨g, o, none⟩) f.length c, undef, .int .i64 0, .pointer (some ⟨w1.heap.size, 0, none⟩), undef, .pointer (some ⟨Bx, 0, none⟩), .slice (some ⟨g, o, none⟩) f.length c, .bool true, .bool false, .slice (some ⟨g, o, none⟩) f.length c, .func (.func 141) #[] #[.pointer (some ⟨w1.heap.size + 1, 0, none⟩)], .agg #[.int .i64 (x.1 : Int), .int .i64 (x.2.1 : Int)], .agg (pgv x.2.2), undef, undef, undef, undef, undef, undef, undef, undef, undef, undef], defers := [] })
      (fun x a' _ X Y row hs hg hr => by obtain ⟨Bx, h1, h2, h3⟩ := hs; exact ⟨Bx, h1, laid_own Bx _ _ _ () X Y row h2 hg hr, h3⟩)
      ?assign ?body ?done ?stop
    case assign =>
      rintro l pre x W K ⟨bS1, hB1⟩ hK
      dsimp only [encP]
      gi_wp2
      exact hK _ _ ((KeepsOthers.alloc _ _).from _) ((Below.refl _ W).alloc hB1.size _) ⟨bS1.alloc _, hB1.alloc hB1.size _⟩ ⟨W.heap.size, bS1.lt, World.alloc_heap_new W _, rfl⟩
    case body =>
      rintro l pre x a' W hl ⟨r, hr⟩ ⟨bS1, hB1⟩ ⟨Bx, hBx, bX, rfl⟩ hlt
      have cS := bS1.cell
      have fS := bS1.frozen
      have x0 : W.cell? ⟨Bx, 0, none⟩ = some (.int .i64 x.2.2.state) := bX.cell 0 rfl
      have x1 : W.cell? ⟨Bx, 1, none⟩ = some (.int .i64 x.2.2.rc.kind) := bX.cell 1 rfl
      have x2 : W.cell? ⟨Bx, 2, none⟩ = some (.int .i64 x.2.2.rc.seq) := bX.cell 2 rfl
      have x3 : W.cell? ⟨Bx, 3, none⟩ = some (.int .i64 x.2.2.rc.addr) := bX.cell 3 rfl
      have x4 : W.cell? ⟨Bx, 4, none⟩ = some (.int .i64 x.2.2.rc.val) := bX.cell 4 rfl
      by_cases h1 : x.2.2.state = 1
      · have hst : Hid (bigOf (pre ++ [x]) = max (bigOf pre) x.2.2.rc.seq) := by rw [Hid, bigOf_snoc]; unfold bigStep; rw [if_pos h1]
        rw [h1] at x0
        gi_wp2
        · have hm : max (bigOf pre) x.2.2.rc.seq = x.2.2.rc.seq := by omega
          exact ⟨(KeepsOthers.setCell _ _ _).from _, (Below.refl _ W).setCell (p := ⟨w1.heap.size, 0, none⟩) (Nat.le_refl _) _, by rw [hst.out, hm]; exact bS1.set _, hB1.setCell (p := ⟨w1.heap.size, 0, none⟩) (Nat.le_refl _) _⟩
        · have hm : max (bigOf pre) x.2.2.rc.seq = bigOf pre := by omega
          exact ⟨(KeepsOthers.setCell _ _ _).from _, (Below.refl _ W).setCell (p := ⟨w1.heap.size, 0, none⟩) (Nat.le_refl _) _, by rw [hst.out, hm]; exact bS1.set _, hB1.setCell (p := ⟨w1.heap.size, 0, none⟩) (Nat.le_refl _) _⟩
      · have hst : Hid (bigOf (pre ++ [x]) = bigOf pre) := by rw [Hid, bigOf_snoc]; unfold bigStep; rw [if_neg h1]
        have h1' : (x.2.2.state == 1) = false := by simpa using h1
        gi_wp2
        exact ⟨KeepsFrom.refl _ _, Below.refl _ _, by rw [hst.out]; exact bS1, hB1⟩
    case done =>
      rintro D ys W hD rfl ⟨bS1, hB1⟩ hK
      have cS := bS1.cell
      have hr := hrg
      have e1 : IntKind.i64.wrap (bigOf (allFrom 0 f) + 1) = bigOf (allFrom 0 f) + 1 := IntWalk.i64_in _ (by omega)
      gi_wp2
      refine ⟨by simp, .inl ⟨_, _, rfl, run_takeDeferred hK, ?_⟩⟩
      exact ⟨_, results_tmp rfl _ _ _, by rw [hfin.out]; rfl, hb1.trans ((hB1.trans (belowK_b (w := w1) (Nat.le_refl _) W D _ _ (by omega) hK rfl rfl)).mono hb1.size)⟩
    case stop =>
      rintro D c pre W _ _ h _
      exact h.elim
  · have hok' : flashOk f = false := by simpa using hok
    have hfin : Hid (findNext f = 0) := by unfold Hid findNext; rw [if_neg hok]
    have hFc := Lib.hid (impl_FlashOk f A c w hF)
    rw [hok'] at hFc
    gi_wp2_with (first | (refine ⟨trivial, ?_⟩; gi_at_call 93; refine (callsIn_wide.2 hFc.out).mono ?_; rintro e w1 ⟨rfl, hb1⟩))
    exact ⟨_, results_tmp rfl _ _ _, by rw [hfin.out]; rfl, hb1⟩
end Go.Proofs.Ytbekihiiildgmaa
namespace Go.Proofs.Ytbekihiiildgmaa
set_option linter.unusedVariables false
set_option linter.unusedSimpArgs false
open Go.RowKit Go.Maps
set_option maxHeartbeats 400000
theorem clean_le (b : Bk) : clean b ≤ b.pages.length := List.countP_le_length
theorem spec_l11Dirty (f : List Bk) (a : Int) (A D : Option Addr) (c m d : Nat) (w : World) (hl : f.length < 1000000000000) (hp : ∀ b ∈ f, b.pages.length < 1000000000000) (hF : Fl w A f) :
    Calls Try.prog 137 #[.agg #[.slice A f.length c, .slice D m d], .int .i64 a] w fun e w' => e = .returned (.bool (dirty f a)) ∧ Below w.heap.size w w' := by
  have HP := Lib.hid hp
  clear hp
  go_enter Try.func137, Try.ntmps137
  go_wp2_with fail
  refine (spec_l3Last f a A c _ hl HP.out (hF.alloc _)).mono ?_
  rintro e w1 ⟨rfl, hb⟩
  have hB : Below w.heap.size w w1 := Below.trans (by (repeat (first | (with_reducible exact Below.refl _ _) | (with_reducible assumption) | (refine Below.setCell ?_ (by first | omega | exact hB.size | exact hb.size | (have h := hB.size; simp; omega) | (have h := hb.size; simp; omega) | (simp; omega) | simp) _) | (refine Below.alloc ?_ (by first | omega | exact hB.size | exact hb.size | (have h := hB.size; simp; omega) | (have h := hb.size; simp; omega) | (simp; omega) | simp) _) | (refine Below.drew ?_)))) (hb.mono (by simp))
  have hfin : Hid (dirty f a = (decide (0 < (last f a).seq) && decide ((last f a).kind = 1))) := rfl
  clear hb
  generalize last f a = x at *
  by_cases h1 : 0 < x.seq
  · by_cases h2 : x.kind = 1
    · have h3 : Hid (dirty f a = true) := by rw [Hid, hfin.out]; simp [h1, h2]
      go_wp2
      all_goals go_ret
      all_goals exact ⟨ret_bool (by first | exact h3.out.symm | (rw [h3.out]; simp [*])), by (repeat (first | (with_reducible exact Below.refl _ _) | (with_reducible assumption) | (refine Below.setCell ?_ (by first | omega | exact hB.size | exact hb.size | (have h := hB.size; simp; omega) | (have h := hb.size; simp; omega) | (simp; omega) | simp) _) | (refine Below.alloc ?_ (by first | omega | exact hB.size | exact hb.size | (have h := hB.size; simp; omega) | (have h := hb.size; simp; omega) | (simp; omega) | simp) _) | (refine Below.drew ?_)))⟩
    · have h3 : Hid (dirty f a = false) := by rw [Hid, hfin.out]; simp [h1, h2]
      go_wp2
      all_goals go_ret
      all_goals exact ⟨ret_bool (by first | exact h3.out.symm | (rw [h3.out]; simp [*])), by (repeat (first | (with_reducible exact Below.refl _ _) | (with_reducible assumption) | (refine Below.setCell ?_ (by first | omega | exact hB.size | exact hb.size | (have h := hB.size; simp; omega) | (have h := hb.size; simp; omega) | (simp; omega) | simp) _) | (refine Below.alloc ?_ (by first | omega | exact hB.size | exact hb.size | (have h := hB.size; simp; omega) | (have h := hb.size; simp; omega) | (simp; omega) | simp) _) | (refine Below.drew ?_)))⟩
  · have h3 : Hid (dirty f a = false) := by rw [Hid, hfin.out]; simp [h1]
    go_wp2
    all_goals go_ret
    all_goals exact ⟨ret_bool (by first | exact h3.out.symm | (rw [h3.out]; simp [*])), by (repeat (first | (with_reducible exact Below.refl _ _) | (with_reducible assumption) | (refine Below.setCell ?_ (by first | omega | exact hB.size | exact hb.size | (have h := hB.size; simp; omega) | (have h := hb.size; simp; omega) | (simp; omega) | simp) _) | (refine Below.alloc ?_ (by first | omega | exact hB.size | exact hb.size | (have h := hB.size; simp; omega) | (have h := hb.size; simp; omega) | (simp; omega) | simp) _) | (refine Below.drew ?_)))⟩
theorem spec_l11Read (s : St) (a : Int) (A D : Option Addr) (c d : Nat) (w : World) (hl : s.flash.length < 1000000000000) (hp : ∀ b ∈ s.flash, b.pages.length < 1000000000000) (hd : s.disk.length = 6) (ha : 1 ≤ a) (ha2 : a ≤ 6) (hF : Fl w A s.flash) (hD : Row w D (ints s.disk)) :
    Calls Try.prog 138 #[.agg #[.slice A s.flash.length c, .slice D 6 d], .int .i64 a] w fun e w' => e = .returned (.int .i64 (readV s a)) ∧ Below w.heap.size w w' := by
  have HP := Lib.hid hp
  obtain ⟨i, rfl⟩ : ∃ i : Nat, a = i + 1 := ⟨(a - 1).toNat, by omega⟩
  have hi : i < 6 := by omega
  obtain ⟨v, hv⟩ := get_some (l := s.disk) (k := i) (by omega)
  have hgd : s.disk.getD i 0 = v := by rw [List.getD_eq_getElem?_getD, hv]; rfl
  have hne : s.disk ≠ [] := by rintro h; rw [h] at hd; simp at hd
  have hfin : Hid (readV s (i + 1) = if 0 < (last s.flash (i + 1)).seq then (last s.flash (i + 1)).val else v) := by unfold Hid readV; rw [show ((i : Int) + 1 - 1).toNat = i by omega, hgd]
  have HV := Lib.hid hv
  have hn1 : ints s.disk ≠ [] := by
    intro e; apply hne
    have := congrArg List.length e
    rw [ints_len] at this
    exact List.length_eq_zero_iff.1 this
  obtain ⟨db, dO, rfl⟩ := hD.addr hn1
  have hi6 : (i : Int) < 6 := by omega
  clear hp hv hgd hne hn1 hd
  go_enter Try.func138, Try.ntmps138
  go_wp2_with fail
  refine (spec_l3Last s.flash (i + 1) A c _ hl HP.out (hF.alloc _)).mono ?_
  rintro e w1 ⟨rfl, hb⟩
  have hB : Below w.heap.size w w1 := Below.trans (by (repeat (first | (with_reducible exact Below.refl _ _) | (with_reducible assumption) | (refine Below.setCell ?_ (by first | omega | exact hB.size | exact hb.size | (have h := hB.size; simp; omega) | (have h := hb.size; simp; omega) | (simp; omega) | simp) _) | (refine Below.alloc ?_ (by first | omega | exact hB.size | exact hb.size | (have h := hB.size; simp; omega) | (have h := hb.size; simp; omega) | (simp; omega) | simp) _) | (refine Below.drew ?_)))) (hb.mono (by simp))
  obtain ⟨hc, hf⟩ := bcell hb
  have hz : w.heap.size < w1.heap.size := by have := hb.size; simp at this; omega
  have hcv := ((hD.alloc (.cells #[.slice A s.flash.length c, .slice (some ⟨db, dO, none⟩) 6 d] 26)).below hb (Nat.le_refl _)).int_ HV.out
  obtain ⟨hcv, _⟩ := hcv
  have hdb := lt_of_cell hcv
  clear hb
  generalize last s.flash (i + 1) = x at *
  by_cases h1 : 0 < x.seq
  · have h3 : Hid (readV s (i + 1) = x.val) := by rw [Hid, hfin.out]; simp [h1]
    go_wp2
    all_goals go_ret
    all_goals exact ⟨ret_int h3.out.symm, by (repeat (first | (with_reducible exact Below.refl _ _) | (with_reducible assumption) | (refine Below.setCell ?_ (by first | omega | exact hB.size | exact hb.size | (have h := hB.size; simp; omega) | (have h := hb.size; simp; omega) | (simp; omega) | simp) _) | (refine Below.alloc ?_ (by first | omega | exact hB.size | exact hb.size | (have h := hB.size; simp; omega) | (have h := hb.size; simp; omega) | (simp; omega) | simp) _) | (refine Below.drew ?_)))⟩
  · have h3 : Hid (readV s (i + 1) = v) := by rw [Hid, hfin.out]; simp [h1]
    have e1 : IntKind.i64.wrap ((i : Int) + 1 - 1) = i := by rw [show (i : Int) + 1 - 1 = i by omega]; exact IntWalk.i64_in _ (by omega)
    go_wp2
    all_goals go_ret
    all_goals exact ⟨ret_int h3.out.symm, by (repeat (first | (with_reducible exact Below.refl _ _) | (with_reducible assumption) | (refine Below.setCell ?_ (by first | omega | exact hB.size | exact hb.size | (have h := hB.size; simp; omega) | (have h := hb.size; simp; omega) | (simp; omega) | simp) _) | (refine Below.alloc ?_ (by first | omega | exact hB.size | exact hb.size | (have h := hB.size; simp; omega) | (have h := hb.size; simp; omega) | (simp; omega) | simp) _) | (refine Below.drew ?_)))⟩
set_option maxHeartbeats 2000000 in
theorem spec_l2Write' (f : List Bk) (i lo hi g o c : Nat) (r : Rc) (torn : Bool) (w : World) (hl : f.length = 4) (hp : ∀ b ∈ f, b.pages.length = 4) (hi4 : i < 4) (hs : List (Option Addr × Nat)) (hBk : Bks w (some ⟨g, o, none⟩) f hs) (hApt : Apt lo hi (some ⟨g, o, none⟩) hs) :
    Calls Try.prog 159 #[.slice (some ⟨g, o, none⟩) 4 c, .int .i64 i, .agg #[.int .i64 r.kind, .int .i64 r.seq, .int .i64 r.addr, .int .i64 r.val], .bool torn] w fun e w' =>
      e = .returned (.tuple #[.slice (some ⟨g, o, none⟩) 4 c, .bool (writeR f i r torn).2]) ∧ Bks w' (some ⟨g, o, none⟩) (writeR f i r torn).1 hs ∧ Agr (fblk (some ⟨g, o, none⟩) hs) w w' := by
  obtain ⟨B, hB⟩ := get_some (l := f) (k := i) (by omega)
  have hBm := hp B (List.mem_of_getElem? hB)
  have hBget : f.getD i zbk = B := by rw [List.getD_eq_getElem?_getD, hB]; rfl
  have hBk0 := hBk.alloc (.cells #[.int .i64 r.kind, .int .i64 r.seq, .int .i64 r.addr, .int .i64 r.val] 45)
  obtain ⟨⟨Ap, cp⟩, hx, z0, z1, z2, z3, hR, _⟩ := hBk0.at_ hB
  dsimp only at z0 hR
  have hcl : clean B ≤ 4 := by rw [← hBm]; exact clean_le B
  have hi4' : (i : Int) < 4 := by omega
  have hfin : Hid (writeR f i r torn = if clean B = 0 ∨ seqIn f r.seq = true then (f, false) else (f.set i { B with pages := B.pages.set (4 - clean B) (if torn then ⟨2, rc0⟩ else ⟨1, r⟩) }, true)) := by unfold Hid writeR; rw [hBget]
  have HP := Lib.hid (show ∀ b ∈ f, b.pages.length < 1000000000000 from fun b hb => by rw [hp b hb]; omega)
  have hpl : B.pages.length < 1000000000000 := by omega
  have HB := Lib.hid hB
  have HBM := Lib.hid hBm
  have HX := Lib.hid hx
  have HL := Lib.hid hl
  have hl4 : f.length < 1000000000000 := by omega
  clear hl hp hBget hBm hB hx
  go_enter Try.func159, Try.ntmps159
  go_wp2_with fail
  refine (spec_l2Clean B Ap cp _ hpl hR).mono ?_
  rintro e w1 ⟨rfl, hb⟩
  have hB1 : Below w.heap.size w w1 := Below.trans (by (repeat (first | (with_reducible exact Below.refl _ _) | (with_reducible assumption) | (refine Below.setCell ?_ (by first | omega | exact hB.size | exact hb.size | (have h := hB.size; simp; omega) | (have h := hb.size; simp; omega) | (simp; omega) | simp) _) | (refine Below.alloc ?_ (by first | omega | exact hB.size | exact hb.size | (have h := hB.size; simp; omega) | (have h := hb.size; simp; omega) | (simp; omega) | simp) _) | (refine Below.drew ?_)))) (hb.mono (by simp))
  have hz : w.heap.size < w1.heap.size := by have := hb.size; simp at this; omega
  obtain ⟨hc, hf⟩ := bcell hb
  have hBk1 := hBk0.below hb (Nat.le_refl _)
  clear hb z0 z1 z2 z3 hR
  generalize clean B = n at *
  by_cases h0 : n = 0
  · subst h0
    have h3 : Hid (writeR f i r torn = (f, false)) := by rw [Hid, hfin.out, if_pos (.inl rfl)]
    go_wp2
    go_ret2
    rw [h3.out]
    exact ⟨rfl, hBk1, Agr.of_below hB1⟩
  · have hn0 : ((n : Int) == 0) = false := by rw [beq_eq_false_iff_ne]; omega
    go_wp2_with fail
    rw [← HL.out]
    refine (spec_l2Seq f r.seq _ c _ hl4 HP.out ⟨hs, hBk1⟩).mono ?_
    rintro e w2 ⟨rfl, rfl⟩
    rw [HL.out]
    by_cases hsq : seqIn f r.seq = true
    · have h3 : Hid (writeR f i r torn = (f, false)) := by rw [Hid, hfin.out, if_pos (.inr hsq)]
      rw [hsq]
      go_wp2
      go_ret2
      rw [h3.out]
      exact ⟨rfl, hBk1, Agr.of_below hB1⟩
    · have h3 : Hid (writeR f i r torn = (f.set i { B with pages := B.pages.set (4 - n) (if torn then ⟨2, rc0⟩ else ⟨1, r⟩) }, true)) := by
        rw [Hid, hfin.out, if_neg (by intro h; rcases h with h | h; exact h0 h; exact hsq h)]
      rw [show seqIn f r.seq = false by simpa using hsq]
      obtain ⟨j, hj⟩ : ∃ j, j + n = 4 := ⟨4 - n, by omega⟩
      have hj4 : 4 - n = j := by omega
      have e1 : IntKind.i64.wrap ((4 : Int) - n) = (j : Int) := by rw [show (4 : Int) - n = j by omega]; exact IntWalk.i64_in _ (by omega)
      have e2 : (4 : Int) - n = (j : Int) := by omega
      rw [hj4] at h3
      clear hj4 hfin hsq
      obtain ⟨x, hx2, y0, y1, _, _, hR1, _⟩ := hBk1.at_ HB.out
      rw [HX.out] at hx2
      cases hx2
      dsimp only at y0 hR1
      rw [HBM.out] at y0
      obtain ⟨p, hq⟩ := get_some (l := B.pages) (k := j) (by rw [HBM.out]; omega)
      obtain ⟨pb, po, rfl⟩ := hR1.addr (pgs_ne (by intro e; rw [e] at hq; simp at hq))
      obtain ⟨c0, c1, c2, c3, c4⟩ := hR1.pg hq
      obtain ⟨f0, f1, f2, f3, f4⟩ := hR1.pgf hq
      have hj1 : (j : Int) < 4 := by omega
      have hpin := hApt.in_ i _ pb HX.out (by rw [blk_some])
      have HQ := Lib.hid hq
      have hpb := lt_of_cell c0
      have hgl := lt_of_cell y0
      clear hq
      cases torn
      · have hWp := wrote_page hR1 HQ.out ⟨1, r⟩
        have hBk2 := hBk1.setPage hApt HB.out HX.out (by rw [HBM.out]; omega) hWp
        have hA2 := (Agr.of_below hB1 (S := fblk (some ⟨g, o, none⟩) hs)).trans hWp.agr (fun b _ e => .inr ⟨i, _, HX.out, by rw [e, blk_some]⟩)
        clear hWp hBk1
        go_wp2
        go_region
        go_wp2
        go_ret2
        rw [h3.out]
        exact ⟨rfl, (hBk2.alloc _).drew, (hA2.alloc _).drew⟩
      · have hWp := wrote_page hR1 HQ.out ⟨2, rc0⟩
        have hBk2 := hBk1.setPage hApt HB.out HX.out (by rw [HBM.out]; omega) hWp
        have hA2 := (Agr.of_below hB1 (S := fblk (some ⟨g, o, none⟩) hs)).trans hWp.agr (fun b _ e => .inr ⟨i, _, HX.out, by rw [e, blk_some]⟩)
        simp only [rc0] at hBk2 hA2
        clear hWp hBk1
        go_wp2
        go_region
        go_wp2
        go_ret2
        rw [h3.out]
        exact ⟨rfl, (hBk2.alloc _).drew, (hA2.alloc _).drew⟩
end Go.Proofs.Ytbekihiiildgmaa
namespace Go.Proofs.Ytbekihiiildgmaa
set_option linter.unusedVariables false
set_option linter.unusedSimpArgs false
open Go.RowKit Go.Maps
set_option maxHeartbeats 400000
theorem Try.info3_step : (Try.prog.info? 47).map (fun i => (i.zero, i.size, i.bytes)) = some (some (.agg #[.int .i64 0, .int .i64 0, .int .i64 0, .int .i64 0, .int .i64 0, .int .i64 0, .int .i64 0, .int .i64 0]), 8, 64) := by kernel_rfl
theorem spec_l3Open' (n : Nat) (f : List Bk) (A : Option Addr) (c : Nat) (w : World) (hn : n = f.length) (hl : f.length < 1000000000000) (hp : ∀ b ∈ f, b.pages.length < 1000000000000) (hF : Fl w A f) :
    Calls Try.prog 108 #[.slice A n c] w fun e w' => e = .returned (.tuple #[.int .i64 (openB f).1, .bool (openB f).2]) ∧ 0 ≤ (openB f).1 ∧ (f ≠ [] → (openB f).1 < f.length) ∧ Below w.heap.size w w' := by subst hn; exact spec_l3Open f A c w hl hp hF
theorem spec_l3Old' (n : Nat) (f : List Bk) (A : Option Addr) (c : Nat) (w : World) (hn : n = f.length) (hl : f.length < 1000000000000) (h0 : 0 < f.length) (hp : ∀ b ∈ f, b.pages.length < 1000000000000) (hF : Fl w A f) :
    Calls Try.prog 156 #[.slice A n c] w fun e w' => e = .returned (.int .i64 (old f)) ∧ old f < f.length ∧ Below w.heap.size w w' := by subst hn; exact spec_l3Old f A c w hl h0 hp hF
theorem spec_l3Next' (n : Nat) (f : List Bk) (A : Option Addr) (c : Nat) (w : World) (hn : n = f.length) (hl : f.length < 1000000000000) (hp : ∀ b ∈ f, b.pages.length < 1000000000000) (hm : ∀ b ∈ f, most b < 1000000000000) (hF : Fl w A f) :
    Calls Try.prog 131 #[.slice A n c] w fun e w' => e = .returned (.int .i64 (next f)) ∧ Below w.heap.size w w' := by subst hn; exact spec_l3Next f A c w hl hp hm hF
theorem spec_l3Live' (n : Nat) (f : List Bk) (p : Pg) (A : Option Addr) (c : Nat) (w : World) (hn : n = f.length) (hl : f.length < 1000000000000) (hp : ∀ b ∈ f, b.pages.length < 1000000000000) (hF : Fl w A f) :
    Calls Try.prog 157 #[.slice A n c, .agg #[.int .i64 p.state, .int .i64 p.rc.kind, .int .i64 p.rc.seq, .int .i64 p.rc.addr, .int .i64 p.rc.val]] w fun e w' => e = .returned (.bool (live f p)) ∧ Below w.heap.size w w' := by subst hn; exact spec_l3Live f p A c w hl hp hF
theorem spec_l3Last' (n : Nat) (f : List Bk) (addr : Int) (A : Option Addr) (c : Nat) (w : World) (hn : n = f.length) (hl : f.length < 1000000000000) (hp : ∀ b ∈ f, b.pages.length < 1000000000000) (hF : Fl w A f) :
    Calls Try.prog 65 #[.slice A n c, .int .i64 addr] w fun e w' => e = .returned (.tuple #[.agg #[.int .i64 (last f addr).kind, .int .i64 (last f addr).seq, .int .i64 (last f addr).addr, .int .i64 (last f addr).val], .bool (decide (0 < (last f addr).seq))]) ∧ Below w.heap.size w w' := by subst hn; exact spec_l3Last f addr A c w hl hp hF
theorem spec_l11Dirty' (n : Nat) (f : List Bk) (a : Int) (A D : Option Addr) (c m d : Nat) (w : World) (hn : n = f.length) (hl : f.length < 1000000000000) (hp : ∀ b ∈ f, b.pages.length < 1000000000000) (hF : Fl w A f) :
    Calls Try.prog 137 #[.agg #[.slice A n c, .slice D m d], .int .i64 a] w fun e w' => e = .returned (.bool (dirty f a)) ∧ Below w.heap.size w w' := by subst hn; exact spec_l11Dirty f a A D c m d w hl hp hF
theorem spec_l11Read' (n : Nat) (s : St) (a : Int) (A D : Option Addr) (c d : Nat) (w : World) (hn : n = s.flash.length) (hl : s.flash.length < 1000000000000) (hp : ∀ b ∈ s.flash, b.pages.length < 1000000000000) (hd : s.disk.length = 6) (ha : 1 ≤ a) (ha2 : a ≤ 6) (hF : Fl w A s.flash) (hD : Row w D (ints s.disk)) :
    Calls Try.prog 138 #[.agg #[.slice A n c, .slice D 6 d], .int .i64 a] w fun e w' => e = .returned (.int .i64 (readV s a)) ∧ Below w.heap.size w w' := by subst hn; exact spec_l11Read s a A D c d w hl hp hd ha ha2 hF hD
/-- a row of steps of one's own, in a block from base on -/
def OwnS (w : World) (base : Nat) (v : Value) (xs : List Sp) : Prop := w.ownsRow base 47 8 v xs.length (sps xs)
theorem ownsRow_keep {w w' : World} {base : Nat} {e : TypeId} {size n : Nat} {v : Value} {xs : List Value} (h : w.ownsRow base e size v n xs) (hk : ∀ b, v.ownBlock = some b → b < w.heap.size → w'.heap[b]? = w.heap[b]?) : w'.ownsRow base e size v n xs := by
  refine ⟨h.1, ?_⟩
  rcases h.2 with hn | ⟨g, cap, cur, hv, hb, hg, rest⟩
  · exact .inl hn
  · have hl : g < w.heap.size := by
      rcases Nat.lt_or_ge g w.heap.size with hl | hl
      · exact hl
      · rw [Array.getElem?_eq_none hl] at hg; cases hg
    exact .inr ⟨g, cap, cur, hv, hb, by rw [hk g (by rw [hv]; rfl) hl]; exact hg, rest⟩
theorem OwnS.below {w w' : World} {base B : Nat} {v : Value} {xs : List Sp} (h : OwnS w base v xs) (hb : Below B w w') (hB : w.heap.size ≤ B) : OwnS w' base v xs := ownsRow_keep h fun b _ hl => hb.block b (by omega)
theorem OwnS.agr {w w' : World} {base : Nat} {v : Value} {xs : List Sp} {S : Nat → Prop} (h : OwnS w base v xs) (hb : Agr S w w') (hS : ∀ b, base ≤ b → ¬ S b) : OwnS w' base v xs := by
  refine ownsRow_keep h fun b hbl hl => hb.block b hl (hS b ?_)
  exact (World.ownsRow.lt h b hbl).1
theorem OwnS.mono {w : World} {base base' : Nat} {v : Value} {xs : List Sp} (h : OwnS w base v xs) (hb : base' ≤ base) : OwnS w base' v xs := World.ownsRow.mono h hb
theorem OwnS.nil (w : World) (base : Nat) (hb : base ≤ w.heap.size) : OwnS (w.alloc (.cells #[] 47)) base (.slice (some ⟨w.heap.size, 0, none⟩) 0 0) [] := World.ownsRow_lit w #[] 0 hb (by unfold maxLen; omega) rfl
theorem OwnS.shape {w : World} {base : Nat} {v : Value} {xs : List Sp} (h : OwnS w base v xs) : ∃ A c, v = .slice A xs.length c ∧ xs.length ≤ c ∧ Row w A (sps xs) ∧ ∀ b, blk A b → base ≤ b ∧ b < w.heap.size := by
  rcases h.2 with ⟨hv, hn⟩ | ⟨g, cap, cur, hv, hb, hg, hc, rest⟩
  · exact ⟨none, 0, by rw [hv, hn], by omega, by have : xs = [] := List.length_eq_zero_iff.1 hn; subst this; exact Row.nil _ _, fun b hb => by simp [blk] at hb⟩
  · refine ⟨some ⟨g, 0, none⟩, cap, hv, hc, Row.of_own (by rw [← hv]; exact h), fun b hbb => ?_⟩
    rw [blk_some] at hbb
    subst hbb
    exact ⟨hb, (World.ownsRow.lt h g (by rw [hv]; rfl)).2⟩
theorem OwnS.snoc {w : World} {base g n c : Nat} {xs : List Sp} {x : Sp} (hn : n = xs.length + 1) (h : w.ownsRow base 47 8 (.slice (some ⟨g, 0, none⟩) (xs.length + 1) c) (xs.length + 1) (sps xs ++ x.vs)) : OwnS w base (.slice (some ⟨g, 0, none⟩) n c) (xs ++ [x]) := by
  subst hn
  unfold OwnS
  rw [List.length_append, sps, List.flatMap_append, show [x].flatMap Sp.vs = x.vs by simp]
  exact h
theorem tells_snoc (f : List Bk) (xs : List Sp) (p : Pg) (r : List Pg) : xs ++ tells f (p :: r) = (if told f p then xs ++ [tellP p] else xs) ++ tells f r := by
  unfold tells
  rw [List.filter_cons]
  split
  · simp
  · rfl
theorem old_lt {f : List Bk} : ∀ (r : List Bk) (i out : Nat), i + r.length = f.length → out < f.length → oldGo f i out r < f.length
  | [], _, _, _, h => h
  | b :: r, i, out, hi, h => by
    rw [List.length_cons] at hi
    unfold oldGo
    split
    · exact old_lt r _ _ (by omega) (by omega)
    · exact old_lt r _ _ (by omega) h
set_option maxHeartbeats 4000000 in
set_option maxRecDepth 100000 in
theorem spec_l12Room (f : List Bk) (A D : Option Addr) (c m d : Nat) (w : World) (hf : f.length = 4) (hp : ∀ b ∈ f, b.pages.length = 4) (hF : Fl w A f) :
    Calls Try.prog 132 #[.agg #[.slice A 4 c, .slice D m d]] w fun e w' => ∃ v, e = .returned (.tuple #[v, .int .i64 (room f).2.1, .bool (room f).2.2]) ∧ OwnS w' w.heap.size v (room f).1 ∧ Below w.heap.size w w' := by
  obtain ⟨ib, hib, hbz0, hbz1, hbz2⟩ := info_parts Try.info3_step
  have HL := Lib.hid hf
  have HP4 := Lib.hid hp
  have hl4 : f.length < 1000000000000 := by omega
  have h04 : 0 < f.length := by omega
  have HP := Lib.hid (show ∀ b ∈ f, b.pages.length < 1000000000000 from fun b hb => by rw [hp b hb]; omega)
  clear hf hp
  go_enter Try.func132, Try.ntmps132
  go_wp2_with fail
  refine (spec_l3Open' _ f A c _ HL.out.symm hl4 HP.out ((hF.alloc _).alloc _)).mono ?_
  rintro e w1 ⟨rfl, ho0, ho1, hb⟩
  have hB : Below w.heap.size w w1 := Below.trans (by (repeat (first | (with_reducible exact Below.refl _ _) | (with_reducible assumption) | (refine Below.setCell ?_ (by first | omega | exact hB.size | exact hb.size | (have h := hB.size; simp; omega) | (have h := hb.size; simp; omega) | (simp; omega) | simp) _) | (refine Below.alloc ?_ (by first | omega | exact hB.size | exact hb.size | (have h := hB.size; simp; omega) | (have h := hb.size; simp; omega) | (simp; omega) | simp) _) | (refine Below.drew ?_)))) (hb.mono (by simp; omega))
  have hz : w.heap.size + 1 < w1.heap.size := by have := hb.size; simp at this; omega
  obtain ⟨hc, hfz⟩ := bcell hb
  have hO1 : OwnS w1 (w.heap.size + 1) (.slice (some ⟨w.heap.size + 1, 0, none⟩) 0 0) [] := by
    have := (OwnS.nil (w.alloc (.cells #[.slice A 4 c, .slice D m d] 26)) (w.heap.size + 1) (by simp))
    simp only [World.size_alloc] at this
    exact this.below hb (by simp)
  have hb0 : w1.cell? ⟨w.heap.size, 0, none⟩ = some (.slice A 4 c) := (hc _ _ (by simp <;> omega)).trans (by simp)
  clear hb hc hfz
  by_cases h1 : (openB f).2 = true
  · have h3 : Hid (room f = ([], (openB f).1, true)) := by unfold Hid room; rw [if_pos h1]
    rw [h1]
    go_wp2
    go_ret3
    rw [h3.out]
    exact ⟨_, rfl, hO1.mono (by omega), by (repeat (first | (with_reducible exact Below.refl _ _) | (with_reducible assumption) | (refine Below.setCell ?_ (by first | omega | exact hB.size | exact hb.size | (have h := hB.size; simp; omega) | (have h := hb.size; simp; omega) | (simp; omega) | simp) _) | (refine Below.alloc ?_ (by first | omega | exact hB.size | exact hb.size | (have h := hB.size; simp; omega) | (have h := hb.size; simp; omega) | (simp; omega) | simp) _) | (refine Below.drew ?_)))⟩
  · have h3 : Hid (room f = (tells f (f.getD (old f) zbk).pages ++ [⟨2, 0, 0, old f, rc0⟩], (old f : Int), decide ((f.getD (old f) zbk).worn < 200))) := by unfold Hid room; rw [if_neg h1]
    rw [show (openB f).2 = false by simpa using h1]
    clear ho0 ho1
    go_wp2_with fail
    refine (spec_l3Old' _ f A c _ HL.out.symm hl4 h04 HP.out (hF.below hB (Nat.le_refl _))).mono ?_
    rintro e w2 ⟨rfl, hol, hb2⟩
    have hO2 := hO1.below hb2 (Nat.le_refl _)
    have hb0' := (hb2.cell (p := ⟨w.heap.size, 0, none⟩) (by simp; omega)).trans hb0
    have hz2 := hb2.size
    have hB2 := hB.trans (hb2.mono hB.size)
    clear hO1 hb0 hB hb2
    generalize old f = i at *
    obtain ⟨B, hBf⟩ := get_some hol
    rw [HL.out] at hol
    have hgd : f.getD i zbk = B := by rw [List.getD_eq_getElem?_getD, hBf]; rfl
    rw [hgd] at h3
    have hB4 := HP4.out B (List.mem_of_getElem? hBf)
    have HB := Lib.hid hBf
    have HB4 := Lib.hid hB4
    have hi4 : (i : Int) < 4 := by omega
    obtain ⟨g, o, rfl⟩ := (hF.below hB2 (Nat.le_refl _)).choose_spec.addr (by intro e; rw [e] at hBf; simp at hBf)
    have hT : Hid (tells f B.pages = [] ++ tells f (B.pages.drop 0)) := rfl
    clear hgd hBf hB4
    go_wp2
    go_loopw [5, 9] (fun u q wr => ∃ (k : Nat) (xs : List Sp) (v : Value), k ≤ 4 ∧ q = .int .i64 k ∧ v = u ∧ xs.length ≤ k ∧ OwnS wr (w.heap.size + 1) v xs ∧ Below w.heap.size w wr ∧ wr.cell? ⟨w.heap.size, 0, none⟩ = some (.slice (some ⟨g, o, none⟩) 4 c) ∧ w.heap.size + 1 < wr.heap.size ∧ Hid (tells f B.pages = xs ++ tells f (B.pages.drop k))) (fun _ q _ => 4 - (intOf q).toNat)
    case atStart => exact ⟨0, [], _, by omega, rfl, rfl, by simp, hO2, hB2, hb0', by omega, hT⟩
    case round =>
      clear hT hO2 hb0' hz2 hB2 hz
      obtain ⟨k, xs, v, hk, rfl, rfl, hxk, hO, hb, hbx, hz, hT⟩ := hrel
      obtain ⟨hs, hBk⟩ := hF.below hb (Nat.le_refl _)
      obtain ⟨⟨Ap, cp⟩, _, z0, z1, _, _, hR, _⟩ := hBk.at_ HB.out
      dsimp only at z0 hR
      rw [HB4.out] at z0
      by_cases hlt : k < 4
      · obtain ⟨p, hq⟩ := get_some (l := B.pages) (k := k) (by have := HB4.out; omega)
        obtain ⟨pb, po, rfl⟩ := hR.addr (pgs_ne (by intro e; rw [e] at hq; simp at hq))
        obtain ⟨c0, c1, c2, c3, c4⟩ := hR.pg hq
        have hT1 : Hid (tells f B.pages = (if told f p then xs ++ [tellP p] else xs) ++ tells f (B.pages.drop (k + 1))) := by rw [Hid, hT.out, drop_cons hq, tells_snoc]
        have hk4 : (k : Int) < 4 := by omega
        have hzz : w.heap.size < wr.heap.size := by omega
        clear hq hT hBk hR
        go_wp2_with fail
        refine (spec_l3Live' _ f p _ c _ HL.out.symm hl4 HP.out ((hF.below hb (Nat.le_refl _)).alloc _)).mono ?_
        rintro e w3 ⟨rfl, hb3⟩
        have hO3 := (hO.below ((Below.refl wr.heap.size _).alloc (Nat.le_refl _) (.cells #[.int .i64 p.state, .int .i64 p.rc.kind, .int .i64 p.rc.seq, .int .i64 p.rc.addr, .int .i64 p.rc.val] 119)) (Nat.le_refl _)).below hb3 (Nat.le_refl _)
        have hbx3 := (hb3.cell (p := ⟨w.heap.size, 0, none⟩) (by show w.heap.size < _; simp; omega)).trans ((((Below.refl wr.heap.size wr).alloc (Nat.le_refl _) (.cells #[.int .i64 p.state, .int .i64 p.rc.kind, .int .i64 p.rc.seq, .int .i64 p.rc.addr, .int .i64 p.rc.val] 119)).cell (p := ⟨w.heap.size, 0, none⟩) (by show w.heap.size < wr.heap.size; omega)).trans hbx)
        have hB3 : Below w.heap.size w w3 := Below.trans (by (repeat (first | (with_reducible exact Below.refl _ _) | (with_reducible assumption) | (refine Below.setCell ?_ (by first | omega | exact hB.size | exact hb.size | (have h := hB.size; simp; omega) | (have h := hb.size; simp; omega) | (simp; omega) | simp) _) | (refine Below.alloc ?_ (by first | omega | exact hB.size | exact hb.size | (have h := hB.size; simp; omega) | (have h := hb.size; simp; omega) | (simp; omega) | simp) _) | (refine Below.drew ?_)))) (hb3.mono (by simp; omega))
        have hs3 : wr.heap.size + 1 ≤ w3.heap.size := by have := hb3.size; simpa using this
        obtain ⟨hc3, _⟩ := bcell hb3
        have p1 : w3.cell? ⟨wr.heap.size, 1, none⟩ = some (.int .i64 p.rc.kind) := (hc3 _ _ (by simp)).trans (by simp)
        have p3 : w3.cell? ⟨wr.heap.size, 3, none⟩ = some (.int .i64 p.rc.addr) := (hc3 _ _ (by simp)).trans (by simp)
        have p4 : w3.cell? ⟨wr.heap.size, 4, none⟩ = some (.int .i64 p.rc.val) := (hc3 _ _ (by simp)).trans (by simp)
        have htd : Hid (told f p = (live f p && decide (p.rc.kind = 1))) := rfl
        clear hb3 hc3 hO hbx hb c0 c1 c2 c3 c4 z0 z1
        generalize live f p = lv at *
        by_cases hd : lv = true ∧ p.rc.kind = 1
        · obtain ⟨rfl, hk1⟩ := hd
          have hT2 : Hid (tells f B.pages = (xs ++ [tellP p]) ++ tells f (B.pages.drop (k + 1))) := by rw [Hid, hT1.out, if_pos (by rw [htd.out]; simp [hk1])]
          rw [hk1] at p1
          clear hT1 htd
          have hO4 := hO3.below ((Below.refl w3.heap.size _).alloc (Nat.le_refl _) (.cells #[.int .i64 1, .int .i64 p.rc.addr, .int .i64 p.rc.val, .int .i64 0, .int .i64 0, .int .i64 0, .int .i64 0, .int .i64 0] 47)) (Nat.le_refl _)
          have hnb : v.ownBlock = none ∨ ∃ b, v.ownBlock = some b ∧ w.heap.size + 1 ≤ b ∧ b < w3.heap.size := by
            rcases h : v.ownBlock with _ | b
            · exact .inl rfl
            · have := World.ownsRow.lt hO3 b h; exact .inr ⟨b, rfl, this.1, this.2⟩
          go_wp2_with (at_builtin; refine wpList_append_lies _ rfl (.tmp 47) (.tmp 55) _ rfl (w.heap.size + 1) 47 ib _ 8 64 Try.underlying37 hib hbz0 hbz1 hbz2 rfl (by omega) v xs.length (sps xs) rfl hO4 ⟨w3.heap.size, 0, none⟩ 1 1 (tellP p).vs rfl rfl (World.news_of_block (cs := #[.int .i64 1, .int .i64 p.rc.addr, .int .i64 p.rc.val, .int .i64 0, .int .i64 0, .int .i64 0, .int .i64 0, .int .i64 0]) (t := 47) (fr := (0, 0)) (heap_alloc_new w3 _)) (by simp [Value.oneCell', tellP, Sp.vs, rc0]) (by omega) (by unfold maxLen; omega) (by omega) (by simp; omega) (w3.heap.size + 1) (by simp) ?_; intro g2 c2 w4 hown2 hgrow2 hat2 hlt2)
          have hgb : ∀ q, v.ownBlock = some q → w.heap.size + 1 ≤ q := fun q e => by
            rcases hnb with h | ⟨b, h, h1, _⟩
            · rw [h] at e; cases e
            · rw [h] at e; cases e; exact h1
          have hbb : Below (w.heap.size + 1) w3 w4 := ((Below.refl _ _).alloc (by omega) _).grown hgrow2 (by simp; omega) hgb
          have hB4 : Below w.heap.size w w4 := hB3.trans (hbb.mono (by omega))
          have hbx4 := (hbb.cell (p := ⟨w.heap.size, 0, none⟩) (by show w.heap.size < _; omega)).trans hbx3
          have hs4 := hbb.size
          have hOS := OwnS.snoc (x := tellP p) rfl hown2
          go_roundw
          case rel => exact ⟨k + 1, xs ++ [tellP p], _, by omega, by go_num, rfl, by simp; omega, hOS, hB4, hbx4, by omega, hT2⟩
          case measure => simp [intOf]; omega
        · have hT2 : Hid (tells f B.pages = xs ++ tells f (B.pages.drop (k + 1))) := by
            rw [Hid, hT1.out, if_neg (by
              rw [htd.out]
              intro h
              simp at h
              exact hd h)]
          clear hT1 htd
          rcases Bool.eq_false_or_eq_true lv with rfl | rfl
          · have hk1 : ¬ p.rc.kind = 1 := fun h => hd ⟨rfl, h⟩
            go_wp2
            go_roundw
            case rel => exact ⟨k + 1, xs, v, by omega, by go_num, rfl, by omega, hO3, hB3, hbx3, by omega, hT2⟩
            case measure => simp [intOf]; omega
          · go_wp2
            go_roundw
            case rel => exact ⟨k + 1, xs, v, by omega, by go_num, rfl, by omega, hO3, hB3, hbx3, by omega, hT2⟩
            case measure => simp [intOf]; omega
      · obtain rfl : k = 4 := by omega
        have hT2 : Hid (tells f B.pages = xs) := by
          rw [Hid, hT.out, List.drop_of_length_le (by rw [HB4.out]; exact Nat.le_refl _)]
          simp [tells]
        rw [hT2.out] at h3
        have hzz : w.heap.size < wr.heap.size := by omega
        have hnb : ∀ q, v.ownBlock = some q → w.heap.size + 1 ≤ q := fun q e => (World.ownsRow.lt hO q e).1
        have hgl := lt_of_cell z1
        have hs1 := hb.size
        have hgw : g < w.heap.size := by
          obtain ⟨hs', hBk'⟩ := hF
          obtain ⟨_, _, _, z1', _⟩ := hBk'.at_ HB.out
          exact lt_of_cell z1'
        clear hT hBk hR z0
        go_wp2
        go_region_held3 (fun w' => w'.cell? ⟨w.heap.size, 0, none⟩ = some (.slice (some ⟨g, o, none⟩) 4 c) ∧ w'.cell? ⟨g, o + i * 2 + 1, none⟩ = some (.int .i64 B.worn)) (first | go_keep | trivial)
          (first
            | (refine step_append_lies _ (by rfl) (.tmp 57) (.tmp 60) _ (by rfl) (w.heap.size + 1) 47 ib _ 8 64 Try.underlying37 hib hbz0 hbz1 hbz2 rfl (by omega) v xs.length (sps xs) (by rfl) (World.ownsRow.drew (World.ownsRow.alloc hO (.cells #[.int .i64 2, .int .i64 0, .int .i64 0, .int .i64 i, .int .i64 0, .int .i64 0, .int .i64 0, .int .i64 0] 47))) ⟨wr.heap.size, 0, none⟩ 1 1 (⟨2, 0, 0, i, rc0⟩ : Sp).vs (by rfl) (by rfl) (World.news_of_block (cs := #[.int .i64 2, .int .i64 0, .int .i64 0, .int .i64 i, .int .i64 0, .int .i64 0, .int .i64 0, .int .i64 0]) (t := 47) (fr := (0, 0)) (heap_alloc_new wr _)) (by simp [Value.oneCell', Sp.vs, rc0]) (by omega) (by unfold maxLen; omega) (by omega) (by simp; omega) (wr.heap.size + 1) (by simp) ?_; intro g2 c2 w4 hown2 hgrow2 hat2 hlt2; have hbb : Below (w.heap.size + 1) wr w4 := (((Below.refl _ _).alloc (by omega) _).drew).grown hgrow2 (by simp; omega) hnb; have y0 := (hbb.cell (p := ⟨w.heap.size, 0, none⟩) (by show w.heap.size < _; omega)).trans hbx; have y1 : w4.cell? ⟨g, o + i * 2 + 1, none⟩ = some (.int .i64 B.worn) := (hbb.cell (p := ⟨g, o + i * 2 + 1, none⟩) (by show g < _; omega)).trans z1))
        have hOS := OwnS.snoc (x := ⟨2, 0, 0, i, rc0⟩) rfl hown2
        go_wp2
        go_ret3
        rw [h3.out]
        exact ⟨_, rfl, hOS.mono (by omega), hb.trans (hbb.mono (by omega))⟩
theorem tells_len (f : List Bk) (ps : List Pg) : (tells f ps).length ≤ ps.length := by
  unfold tells; rw [List.length_map]; exact List.length_filter_le _ _
theorem room_len {f : List Bk} (hf : f.length = 4) (hp : ∀ b ∈ f, b.pages.length = 4) : (room f).1.length ≤ 5 := by
  unfold room
  split
  · simp
  · have h1 := tells_len f (f.getD (old f) zbk).pages
    have hlt : old f < f.length := old_lt _ _ _ (by simp; omega) (by omega)
    have h2 : (f.getD (old f) zbk).pages.length = 4 := by
      rw [List.getD_eq_getElem?_getD, List.getElem?_eq_getElem hlt]
      exact hp _ (List.getElem_mem hlt)
    rw [List.length_append]; simp only [List.length_cons, List.length_nil]; omega
end Go.Proofs.Ytbekihiiildgmaa
namespace Go.Proofs.Ytbekihiiildgmaa
set_option linter.unusedVariables false
set_option linter.unusedSimpArgs false
open Go.RowKit Go.Maps
set_option maxHeartbeats 400000
set_option maxHeartbeats 4000000 in
set_option maxRecDepth 100000 in
theorem spec_l12Write (f : List Bk) (kind addr val : Int) (A D : Option Addr) (c m d : Nat) (w : World) (hf : f.length = 4) (hp : ∀ b ∈ f, b.pages.length = 4) (hm : ∀ b ∈ f, most b < 1000000000000) (hF : Fl w A f) :
    Calls Try.prog 80 #[.agg #[.slice A 4 c, .slice D m d], .int .i64 kind, .int .i64 addr, .int .i64 val] w fun e w' => ∃ v, e = .returned v ∧ OwnS w' w.heap.size v (wr f kind addr val) ∧ Below w.heap.size w w' := by
  obtain ⟨ib, hib, hbz0, hbz1, hbz2⟩ := info_parts Try.info3_step
  have HL := Lib.hid hf
  have HP4 := Lib.hid hp
  have HM := Lib.hid hm
  have hl4 : f.length < 1000000000000 := by omega
  have HP := Lib.hid (show ∀ b ∈ f, b.pages.length < 1000000000000 from fun b hb => by rw [hp b hb]; omega)
  have hfin : Hid (wr f kind addr val = if (room f).2.2 = false ∨ recOk ⟨kind, next f, addr, val⟩ = false then [] else (room f).1 ++ [⟨3, 0, 0, (room f).2.1, ⟨kind, next f, addr, val⟩⟩]) := rfl
  have hrl : (room f).1.length ≤ 5 := room_len hf hp
  clear hf hp hm
  go_enter Try.func80, Try.ntmps80
  go_wp2_with fail
  refine (spec_l3Next' _ f A c _ HL.out.symm hl4 HP.out HM.out (hF.alloc _)).mono ?_
  rintro e w1 ⟨rfl, hb⟩
  have hB : Below w.heap.size w w1 := Below.trans (by (repeat (first | (with_reducible exact Below.refl _ _) | (with_reducible assumption) | (refine Below.setCell ?_ (by first | omega | exact hB.size | exact hb.size | (have h := hB.size; simp; omega) | (have h := hb.size; simp; omega) | (simp; omega) | simp) _) | (refine Below.alloc ?_ (by first | omega | exact hB.size | exact hb.size | (have h := hB.size; simp; omega) | (have h := hb.size; simp; omega) | (simp; omega) | simp) _) | (refine Below.drew ?_)))) (hb.mono (by simp))
  have hz : w.heap.size < w1.heap.size := by have := hb.size; simp at this; omega
  obtain ⟨hc, hfz⟩ := bcell hb
  have x0 : w1.cell? ⟨w.heap.size, 0, none⟩ = some (.slice A 4 c) := (hc _ _ (by simp)).trans (by simp)
  have x1 : w1.cell? ⟨w.heap.size, 1, none⟩ = some (.slice D m d) := (hc _ _ (by simp)).trans (by simp)
  clear hb hc hfz
  generalize next f = nx at *
  go_wp2_with fail
  refine (spec_l12Room f A D c m d _ HL.out HP4.out ((hF.below hB (Nat.le_refl _)).alloc _)).mono ?_
  rintro e w2 ⟨v, rfl, hO, hb2⟩
  obtain ⟨hc, hfz⟩ := bcell hb2
  have r0 : w2.cell? ⟨w1.heap.size, 0, none⟩ = some (.int .i64 kind) := (hc _ _ (by simp)).trans (by simp)
  have r1 : w2.cell? ⟨w1.heap.size, 1, none⟩ = some (.int .i64 nx) := (hc _ _ (by simp)).trans (by simp)
  have r2 : w2.cell? ⟨w1.heap.size, 2, none⟩ = some (.int .i64 addr) := (hc _ _ (by simp)).trans (by simp)
  have r3 : w2.cell? ⟨w1.heap.size, 3, none⟩ = some (.int .i64 val) := (hc _ _ (by simp)).trans (by simp)
  have hB2 : Below w.heap.size w w2 := (hB.alloc hB.size _).trans (hb2.mono (by simp; omega))
  have hz2 : w1.heap.size + 1 ≤ w2.heap.size := by have := hb2.size; simpa using this
  replace hO := hO.mono (base' := w1.heap.size) (by simp)
  clear hb2 hc hfz x0 x1 hB
  generalize room f = rm at *
  obtain ⟨xs, bi, ok⟩ := rm
  dsimp only at *
  cases ok
  · have h3 : Hid (wr f kind addr val = []) := by rw [Hid, hfin.out, if_pos (.inl rfl)]
    go_wp2
    go_ret
    rw [h3.out]
    exact ⟨_, rfl, OwnS.nil _ _ (by omega), by (repeat (first | (with_reducible exact Below.refl _ _) | (with_reducible assumption) | (refine Below.setCell ?_ (by first | omega | exact hB.size | exact hb.size | (have h := hB.size; simp; omega) | (have h := hb.size; simp; omega) | (simp; omega) | simp) _) | (refine Below.alloc ?_ (by first | omega | exact hB.size | exact hb.size | (have h := hB.size; simp; omega) | (have h := hb.size; simp; omega) | (simp; omega) | simp) _) | (refine Below.drew ?_)))⟩
  · go_wp2_with fail
    refine (spec_RecOk ⟨kind, nx, addr, val⟩ _).mono ?_
    rintro e w3 ⟨rfl, hb3⟩
    obtain ⟨hc, hfz⟩ := bcell hb3
    replace r0 := (hc _ _ (lt_of_cell r0)).trans r0
    replace r1 := (hc _ _ (lt_of_cell r1)).trans r1
    replace r2 := (hc _ _ (lt_of_cell r2)).trans r2
    replace r3 := (hc _ _ (lt_of_cell r3)).trans r3
    have hB3 := hB2.trans (hb3.mono hB2.size)
    have hz3 := hb3.size
    have hO3 := hO.below hb3 (Nat.le_refl _)
    clear hO hc hfz hb3
    by_cases hok : recOk ⟨kind, nx, addr, val⟩ = true
    · have h3 : Hid (wr f kind addr val = xs ++ [⟨3, 0, 0, bi, ⟨kind, nx, addr, val⟩⟩]) := by
        rw [Hid, hfin.out, if_neg (by intro h; rcases h with h | h; cases h; rw [hok] at h; cases h)]
      rw [hok]
      have hO4 := hO3.below ((Below.refl w3.heap.size _).alloc (Nat.le_refl _) (.cells #[.int .i64 3, .int .i64 0, .int .i64 0, .int .i64 bi, .int .i64 kind, .int .i64 nx, .int .i64 addr, .int .i64 val] 47)) (Nat.le_refl _)
      have hnb : ∀ q, v.ownBlock = some q → w1.heap.size ≤ q := fun q e => (World.ownsRow.lt hO3 q e).1
      clear hfin
      go_wp2_with (at_builtin; refine wpList_append_lies _ rfl (.tmp 34) (.tmp 38) _ rfl w1.heap.size 47 ib _ 8 64 Try.underlying37 hib hbz0 hbz1 hbz2 rfl (by omega) v xs.length (sps xs) rfl hO4 ⟨w3.heap.size, 0, none⟩ 1 1 (⟨3, 0, 0, bi, ⟨kind, nx, addr, val⟩⟩ : Sp).vs rfl rfl (World.news_of_block (cs := #[.int .i64 3, .int .i64 0, .int .i64 0, .int .i64 bi, .int .i64 kind, .int .i64 nx, .int .i64 addr, .int .i64 val]) (t := 47) (fr := (0, 0)) (heap_alloc_new w3 _)) (by simp [Value.oneCell', Sp.vs]) (by omega) (by unfold maxLen; omega) (by omega) (by simp; omega) (w3.heap.size + 1) (by simp) ?_; intro g2 c2 w4 hown2 hgrow2 hat2 hlt2)
      have hbb : Below w1.heap.size w3 w4 := ((Below.refl _ _).alloc (by omega) _).grown hgrow2 (by simp; omega) hnb
      have hOS := OwnS.snoc (x := ⟨3, 0, 0, bi, ⟨kind, nx, addr, val⟩⟩) rfl hown2
      go_ret
      rw [h3.out]
      exact ⟨_, rfl, hOS.mono (by omega), hB3.trans (hbb.mono (by omega))⟩
    · have hok' : recOk ⟨kind, nx, addr, val⟩ = false := by simpa using hok
      have h3 : Hid (wr f kind addr val = []) := by rw [Hid, hfin.out, if_pos (.inr hok')]
      rw [hok']
      go_wp2
      go_ret
      rw [h3.out]
      exact ⟨_, rfl, OwnS.nil _ _ (by omega), by (repeat (first | (with_reducible exact Below.refl _ _) | (with_reducible assumption) | (refine Below.setCell ?_ (by first | omega | exact hB.size | exact hb.size | (have h := hB.size; simp; omega) | (have h := hb.size; simp; omega) | (simp; omega) | simp) _) | (refine Below.alloc ?_ (by first | omega | exact hB.size | exact hb.size | (have h := hB.size; simp; omega) | (have h := hb.size; simp; omega) | (simp; omega) | simp) _) | (refine Below.drew ?_)))⟩
end Go.Proofs.Ytbekihiiildgmaa
namespace Go.Proofs.Ytbekihiiildgmaa
set_option linter.unusedVariables false
set_option linter.unusedSimpArgs false
open Go.RowKit Go.Maps
set_option maxHeartbeats 400000
theorem Fl.drew' {w : World} {A : Option Addr} {f : List Bk} (h : Fl w A f) : Fl w.drew A f := by obtain ⟨hs, h⟩ := h; exact ⟨hs, h.drew⟩
theorem sps_one (xs : List Sp) : ∀ v ∈ sps xs, v.oneCell' = true := by
  intro v hv
  unfold sps at hv
  obtain ⟨x, _, hx⟩ := List.mem_flatMap.1 hv
  unfold Sp.vs at hx
  simp at hx
  rcases hx with h | h | h | h | h | h | h | h <;> (subst h; rfl)
theorem OwnS.onto {w : World} {base g n c : Nat} {xs ys : List Sp} (hn : n = xs.length + ys.length) (h : w.ownsRow base 47 8 (.slice (some ⟨g, 0, none⟩) n c) n (sps xs ++ sps ys)) : OwnS w base (.slice (some ⟨g, 0, none⟩) n c) (xs ++ ys) := by
  subst hn
  unfold OwnS
  rw [List.length_append, sps, List.flatMap_append]
  exact h
theorem wr_len {f : List Bk} (hf : f.length = 4) (hp : ∀ b ∈ f, b.pages.length = 4) (k a v : Int) : (wr f k a v).length ≤ 6 := by
  have := room_len hf hp
  unfold wr
  split
  · simp
  · rw [List.length_append]; simp only [List.length_cons, List.length_nil]; omega
set_option maxHeartbeats 4000000 in
set_option maxRecDepth 100000 in
theorem spec_l12Flush (s : St) (a : Int) (A D : Option Addr) (c d : Nat) (w : World) (hf : s.flash.length = 4) (hp : ∀ b ∈ s.flash, b.pages.length = 4) (hm : ∀ b ∈ s.flash, most b < 1000000000000) (hd : s.disk.length = 6) (hF : Fl w A s.flash) (hD : Row w D (ints s.disk)) :
    Calls Try.prog 90 #[.agg #[.slice A 4 c, .slice D 6 d], .int .i64 a] w fun e w' => ∃ v, e = .returned v ∧ OwnS w' w.heap.size v (flush s a) ∧ Below w.heap.size w w' := by
  obtain ⟨ib, hib, hbz0, hbz1, hbz2⟩ := info_parts Try.info3_step
  have HL := Lib.hid hf
  have HP4 := Lib.hid hp
  have HM := Lib.hid hm
  have HD := Lib.hid hd
  have hl4 : s.flash.length < 1000000000000 := by omega
  have HP := Lib.hid (show ∀ b ∈ s.flash, b.pages.length < 1000000000000 from fun b hb => by rw [hp b hb]; omega)
  have hwl := wr_len hf hp 2 a (readV s a)
  have hfin : Hid (flush s a = if addrB a = false ∨ dirty s.flash a = false then [] else if wr s.flash 2 a (readV s a) = [] then [] else ⟨1, a, readV s a, 0, rc0⟩ :: wr s.flash 2 a (readV s a)) := rfl
  have hin : Hid ((decide (1 ≤ a) && decide (a ≤ 6)) = addrB a) := rfl
  clear hf hp hm hd
  go_enter Try.func90, Try.ntmps90
  go_wp2_with fail
  refine (spec_l6In _ _ _ _).mono ?_
  rintro e w1 ⟨rfl, rfl⟩
  rw [hin.out]
  by_cases ha : addrB a = true
  · have ha1 : 1 ≤ a ∧ a ≤ 6 := by unfold addrB at ha; simpa using ha
    rw [ha]
    obtain ⟨ha1, ha2⟩ := ha1
    go_wp2_with fail
    refine (spec_l11Dirty' _ s.flash a A D c 6 d _ HL.out.symm hl4 HP.out (hF.alloc _)).mono ?_
    rintro e w1 ⟨rfl, hb⟩
    have hB : Below w.heap.size w w1 := Below.trans (by (repeat (first | (with_reducible exact Below.refl _ _) | (with_reducible assumption) | (refine Below.setCell ?_ (by first | omega | exact hB.size | exact hb.size | (have h := hB.size; simp; omega) | (have h := hb.size; simp; omega) | (simp; omega) | simp) _) | (refine Below.alloc ?_ (by first | omega | exact hB.size | exact hb.size | (have h := hB.size; simp; omega) | (have h := hb.size; simp; omega) | (simp; omega) | simp) _) | (refine Below.drew ?_)))) (hb.mono (by simp))
    have hz : w.heap.size < w1.heap.size := by have := hb.size; simp at this; omega
    obtain ⟨hc, hfz⟩ := bcell hb
    have x0 : w1.cell? ⟨w.heap.size, 0, none⟩ = some (.slice A 4 c) := (hc _ _ (by simp)).trans (by simp)
    have x1 : w1.cell? ⟨w.heap.size, 1, none⟩ = some (.slice D 6 d) := (hc _ _ (by simp)).trans (by simp)
    clear hb hc hfz
    by_cases hdy : dirty s.flash a = true
    · rw [hdy]
      go_wp2_with fail
      refine (spec_l11Read' _ s a A D c d _ HL.out.symm hl4 HP.out HD.out ha1 ha2 (hF.below hB (Nat.le_refl _)) (hD.below hB (Nat.le_refl _))).mono ?_
      rintro e w2 ⟨rfl, hb⟩
      have hB2 := hB.trans (hb.mono hB.size)
      have hz2 := hb.size
      replace x0 := (hb.cell (p := ⟨w.heap.size, 0, none⟩) hz).trans x0
      replace x1 := (hb.cell (p := ⟨w.heap.size, 1, none⟩) hz).trans x1
      clear hB hb
      generalize readV s a = val at *
      go_wp2_with fail
      refine (spec_l12Write s.flash 2 a val A D c 6 d _ HL.out HP4.out HM.out (hF.below hB2 (Nat.le_refl _))).mono ?_
      rintro e w3 ⟨v, rfl, hO, hb⟩
      have hB3 := hB2.trans (hb.mono hB2.size)
      have hz3 := hb.size
      have h3 : Hid (flush s a = if wr s.flash 2 a val = [] then [] else ⟨1, a, val, 0, rc0⟩ :: wr s.flash 2 a val) := by
        rw [Hid, hfin.out, if_neg (by rw [ha, hdy]; simp)]
      generalize wr s.flash 2 a val = xs at *
      obtain ⟨A2, c2, rfl, hcap, hRow, hblk⟩ := hO.shape
      clear hfin hb hB2 x0 x1
      by_cases hx : xs = []
      · subst hx
        have h4 : Hid (flush s a = []) := by rw [Hid, h3.out, if_pos rfl]
        go_wp2
        go_ret
        rw [h4.out]
        exact ⟨_, rfl, hO.mono (by omega), hB3⟩
      · have h4 : Hid (flush s a = [⟨1, a, val, 0, rc0⟩] ++ xs) := by rw [Hid, h3.out, if_neg hx]; rfl
        have hlen : 0 < xs.length := List.length_pos_iff.2 hx
        have hle : ((xs.length : Int) == 0) = false := by rw [beq_eq_false_iff_ne]; omega
        obtain ⟨g2, o2, rfl⟩ := hRow.addr (by intro e; have := sps_len xs; rw [e] at this; simp at this; omega)
        have hlit : OwnS (w3.alloc (.cells #[.int .i64 1, .int .i64 a, .int .i64 val, .int .i64 0, .int .i64 0, .int .i64 0, .int .i64 0, .int .i64 0] 47)) w.heap.size (.slice (some ⟨w3.heap.size, 0, none⟩) 1 1) [⟨1, a, val, 0, rc0⟩] := World.ownsRow_lit w3 #[.int .i64 1, .int .i64 a, .int .i64 val, .int .i64 0, .int .i64 0, .int .i64 0, .int .i64 0, .int .i64 0] 1 (by omega) (by unfold maxLen; omega) rfl
        clear h3
        go_wp2_with (at_builtin; refine wpList_append_lies _ rfl (.tmp 31) (.tmp 32) _ rfl w.heap.size 47 ib _ 8 64 Try.underlying37 hib hbz0 hbz1 hbz2 rfl (by omega) (.slice (some ⟨w3.heap.size, 0, none⟩) 1 1) 1 (sps [⟨1, a, val, 0, rc0⟩]) rfl hlit ⟨g2, o2, none⟩ xs.length c2 (sps xs) rfl (sps_len xs) ((hRow.alloc _).news) (sps_one xs) hlen (by unfold maxLen; omega) (by omega) (by simp; omega) (w3.heap.size + 1) (by simp) ?_; intro g3 c3 w4 hown2 hgrow2 hat2 hlt2)
        have hbb : Below w3.heap.size w3 w4 := ((Below.refl _ _).alloc (by omega) _).grown hgrow2 (by simp) (by intro q e; cases e; exact Nat.le_refl _)
        have hOS := OwnS.onto (xs := [⟨1, a, val, 0, rc0⟩]) rfl hown2
        go_ret
        rw [h4.out]
        exact ⟨_, rfl, hOS, hB3.trans (hbb.mono (by omega))⟩
    · have hdy' : dirty s.flash a = false := by simpa using hdy
      have h3 : Hid (flush s a = []) := by rw [Hid, hfin.out, if_pos (.inr hdy')]
      rw [hdy']
      go_wp2
      go_ret
      rw [h3.out]
      exact ⟨_, rfl, OwnS.nil _ _ (by omega), by (repeat (first | (with_reducible exact Below.refl _ _) | (with_reducible assumption) | (refine Below.setCell ?_ (by first | omega | exact hB.size | exact hb.size | (have h := hB.size; simp; omega) | (have h := hb.size; simp; omega) | (simp; omega) | simp) _) | (refine Below.alloc ?_ (by first | omega | exact hB.size | exact hb.size | (have h := hB.size; simp; omega) | (have h := hb.size; simp; omega) | (simp; omega) | simp) _) | (refine Below.drew ?_)))⟩
  · have ha' : addrB a = false := by simpa using ha
    have h3 : Hid (flush s a = []) := by rw [Hid, hfin.out, if_pos (.inl ha')]
    rw [ha']
    go_wp2
    go_ret
    rw [h3.out]
    refine ⟨_, rfl, ?_, by (repeat (first | (with_reducible exact Below.refl _ _) | (with_reducible assumption) | (refine Below.setCell ?_ (by first | omega | exact hB.size | exact hb.size | (have h := hB.size; simp; omega) | (have h := hb.size; simp; omega) | (simp; omega) | simp) _) | (refine Below.alloc ?_ (by first | omega | exact hB.size | exact hb.size | (have h := hB.size; simp; omega) | (have h := hb.size; simp; omega) | (simp; omega) | simp) _) | (refine Below.drew ?_)))⟩
    have := OwnS.nil (w.alloc (.cells #[.slice A 4 c, .slice D 6 d] 26)) w.heap.size (by simp)
    simp only [World.size_alloc] at this
    exact this
set_option maxHeartbeats 4000000 in
set_option maxRecDepth 100000 in
theorem spec_l12Fill (s : St) (a : Int) (A D : Option Addr) (c d : Nat) (w : World) (hf : s.flash.length = 4) (hp : ∀ b ∈ s.flash, b.pages.length = 4) (hm : ∀ b ∈ s.flash, most b < 1000000000000) (hd : s.disk.length = 6) (hF : Fl w A s.flash) (hD : Row w D (ints s.disk)) :
    Calls Try.prog 92 #[.agg #[.slice A 4 c, .slice D 6 d], .int .i64 a] w fun e w' => ∃ v, e = .returned v ∧ OwnS w' w.heap.size v (fill s a) ∧ Below w.heap.size w w' := by
  have HL := Lib.hid hf
  have HP4 := Lib.hid hp
  have HM := Lib.hid hm
  have hl4 : s.flash.length < 1000000000000 := by omega
  have HP := Lib.hid (show ∀ b ∈ s.flash, b.pages.length < 1000000000000 from fun b hb => by rw [hp b hb]; omega)
  have hin : Hid ((decide (1 ≤ a) && decide (a ≤ 6)) = addrB a) := rfl
  have hnil : OwnS ((w.alloc (.cells #[.slice A 4 c, .slice D 6 d] 26)).alloc (.cells #[] 47)) w.heap.size (.slice (some ⟨w.heap.size + 1, 0, none⟩) 0 0) [] := by
    have := OwnS.nil (w.alloc (.cells #[.slice A 4 c, .slice D 6 d] 26)) w.heap.size (by simp)
    simp only [World.size_alloc] at this
    exact this
  have hfin : Hid (fill s a = if addrB a = false ∨ 0 < (last s.flash a).seq then [] else wr s.flash 2 a (s.disk.getD (a - 1).toNat 0)) := rfl
  clear hf hp hm
  by_cases ha : addrB a = true
  · have ha1 : 1 ≤ a ∧ a ≤ 6 := by unfold addrB at ha; simpa using ha
    obtain ⟨ha1, ha2⟩ := ha1
    obtain ⟨i, rfl⟩ : ∃ i : Nat, a = i + 1 := ⟨(a - 1).toNat, by omega⟩
    have hi : i < 6 := by omega
    obtain ⟨v, hv⟩ := get_some (l := s.disk) (k := i) (by omega)
    have hgd : s.disk.getD ((i : Int) + 1 - 1).toNat 0 = v := by rw [show ((i : Int) + 1 - 1).toNat = i by omega, List.getD_eq_getElem?_getD, hv]; rfl
    rw [hgd] at hfin
    have hn1 : ints s.disk ≠ [] := by
      intro e
      have := congrArg List.length e
      rw [ints_len, hd] at this
      simp at this
    obtain ⟨db, dO, rfl⟩ := hD.addr hn1
    have hi6 : (i : Int) < 6 := by omega
    have HV := Lib.hid hv
    clear hv hgd hn1 hd hnil
    go_enter Try.func92, Try.ntmps92
    go_wp2_with fail
    refine (spec_l6In _ _ _ _).mono ?_
    rintro e w1 ⟨rfl, rfl⟩
    rw [hin.out, ha]
    go_wp2_with fail
    refine (spec_l3Last' _ s.flash (i + 1) A c _ HL.out.symm hl4 HP.out (hF.alloc _)).mono ?_
    rintro e w1 ⟨rfl, hb⟩
    have hB : Below w.heap.size w w1 := Below.trans (by (repeat (first | (with_reducible exact Below.refl _ _) | (with_reducible assumption) | (refine Below.setCell ?_ (by first | omega | exact hB.size | exact hb.size | (have h := hB.size; simp; omega) | (have h := hb.size; simp; omega) | (simp; omega) | simp) _) | (refine Below.alloc ?_ (by first | omega | exact hB.size | exact hb.size | (have h := hB.size; simp; omega) | (have h := hb.size; simp; omega) | (simp; omega) | simp) _) | (refine Below.drew ?_)))) (hb.mono (by simp))
    have hz : w.heap.size < w1.heap.size := by have := hb.size; simp at this; omega
    obtain ⟨hc, hfz⟩ := bcell hb
    have x0 : w1.cell? ⟨w.heap.size, 0, none⟩ = some (.slice A 4 c) := (hc _ _ (by simp)).trans (by simp)
    have x1 : w1.cell? ⟨w.heap.size, 1, none⟩ = some (.slice (some ⟨db, dO, none⟩) 6 d) := (hc _ _ (by simp)).trans (by simp)
    obtain ⟨hcv, _⟩ := (hD.below hB (Nat.le_refl _)).int_ HV.out
    have hdb := lt_of_cell hcv
    have hFz := hF.below hB (Nat.le_refl _)
    clear hb hc hfz
    generalize last s.flash (i + 1) = x at *
    by_cases h1 : 0 < x.seq
    · have h3 : Hid (fill s (i + 1) = []) := by rw [Hid, hfin.out, if_pos (.inr h1)]
      go_wp2
      go_ret
      rw [h3.out]
      refine ⟨_, rfl, ?_, by (repeat (first | (with_reducible exact Below.refl _ _) | (with_reducible assumption) | (refine Below.setCell ?_ (by first | omega | exact hB.size | exact hb.size | (have h := hB.size; simp; omega) | (have h := hb.size; simp; omega) | (simp; omega) | simp) _) | (refine Below.alloc ?_ (by first | omega | exact hB.size | exact hb.size | (have h := hB.size; simp; omega) | (have h := hb.size; simp; omega) | (simp; omega) | simp) _) | (refine Below.drew ?_)))⟩
      have := OwnS.nil (w1.alloc (.cells #[.int .i64 x.kind, .int .i64 x.seq, .int .i64 x.addr, .int .i64 x.val] 45)) w.heap.size (by simp; omega)
      simp only [World.size_alloc] at this
      exact this
    · have h3 : Hid (fill s (i + 1) = wr s.flash 2 (i + 1) v) := by
        rw [Hid, hfin.out, if_neg (by intro h; rcases h with h | h; rw [ha] at h; cases h; exact h1 h)]
      have e1 : IntKind.i64.wrap ((i : Int) + 1 - 1) = i := by rw [show (i : Int) + 1 - 1 = i by omega]; exact IntWalk.i64_in _ (by omega)
      have e2 : IntKind.i64.wrap (i : Int) = i := IntWalk.i64_in _ (by omega)
      have e3 : (i : Int) + 1 - 1 = i := by omega
      have e4 : (0 : Int) ≤ i := by omega
      clear hfin
      go_wp2
      go_region_with (first | (go_at_call 80; with_reducible refine (spec_l12Write s.flash 2 (i + 1) v A (some ⟨db, dO, none⟩) c 6 d _ HL.out HP4.out HM.out (Fl.drew' (hFz.alloc _))).mono ?_; rintro e w2 ⟨u, rfl, hO, hb2⟩))
      all_goals
        have hle : w.heap.size ≤ (w1.alloc (.cells #[.int .i64 x.kind, .int .i64 x.seq, .int .i64 x.addr, .int .i64 x.val] 45)).drew.heap.size := by show w.heap.size ≤ (w1.alloc _).heap.size; simp; omega
        have hB2 : Below w.heap.size w w2 := ((hB.alloc hB.size _).drew).trans (hb2.mono hle)
        clear hb2
        go_wp2
        go_ret
        rw [h3.out]
        exact ⟨_, rfl, hO.mono hle, hB2⟩
  · have ha' : addrB a = false := by simpa using ha
    have h3 : Hid (fill s a = []) := by rw [Hid, hfin.out, if_pos (.inl ha')]
    go_enter Try.func92, Try.ntmps92
    go_wp2_with fail
    refine (spec_l6In _ _ _ _).mono ?_
    rintro e w1 ⟨rfl, rfl⟩
    rw [hin.out, ha']
    go_wp2
    go_ret
    rw [h3.out]
    exact ⟨_, rfl, hnil, by (repeat (first | (with_reducible exact Below.refl _ _) | (with_reducible assumption) | (refine Below.setCell ?_ (by first | omega | exact hB.size | exact hb.size | (have h := hB.size; simp; omega) | (have h := hb.size; simp; omega) | (simp; omega) | simp) _) | (refine Below.alloc ?_ (by first | omega | exact hB.size | exact hb.size | (have h := hB.size; simp; omega) | (have h := hb.size; simp; omega) | (simp; omega) | simp) _) | (refine Below.drew ?_)))⟩
end Go.Proofs.Ytbekihiiildgmaa
namespace Go.Proofs.Ytbekihiiildgmaa
set_option linter.unusedVariables false
set_option linter.unusedSimpArgs false
open Go.RowKit Go.Maps
set_option maxHeartbeats 400000
theorem Below.drewN' (B : Nat) (w : World) (n : Nat) : Below B w (w.drewN n) := ⟨rfl, rfl, rfl, Nat.le_refl _, fun _ _ => rfl⟩
theorem laws_lqPages (A A' : Option Addr) (n c c' : Nat) (ps : List Pg) (w : World) (hn : n = ps.length) (hl : ps.length < 1000000000000) (hR : Row w A (pgs ps)) (hR' : Row w A' (pgs ps)) :
    Calls Try.prog 110 #[.slice A n c, .slice A' n c'] w fun e w' => e = .returned (.bool true) ∧ Below w.heap.size w w' := by
  subst hn
  go_enter Try.func110, Try.ntmps110
  go_wp2
  go_loopw [5] (fun i wr => ∃ (k : Nat), k ≤ ps.length ∧ i = .int .i64 k ∧ Below w.heap.size w wr) (fun i _ => ps.length - (intOf i).toNat)
  case atStart => exact ⟨0, by omega, rfl, Below.refl _ _⟩
  case round =>
    obtain ⟨k, hk, rfl, hb⟩ := hrel
    by_cases hlt : k < ps.length
    · obtain ⟨p, hp⟩ := get_some hlt
      obtain ⟨b, o, rfl⟩ := hR.addr (pgs_ne (by rintro rfl; simp at hlt))
      obtain ⟨b', o', rfl⟩ := hR'.addr (pgs_ne (by rintro rfl; simp at hlt))
      have hRk := hR.below hb (Nat.le_refl _)
      have hRk' := hR'.below hb (Nat.le_refl _)
      obtain ⟨c0, c1, c2, c3, c4⟩ := hRk.pg hp
      obtain ⟨d0, d1, d2, d3, d4⟩ := hRk'.pg hp
      have hk1 : (k : Int) < ps.length := by omega
      have HP := Lib.hid hp
      clear hp
      go_wp2
      go_quiet (fail)
      have hb2 : Below w.heap.size w (wr.drewN nq) := Below.trans hb (Below.drewN' _ _ _)
      go_wp2
      go_roundw
      case rel => exact ⟨k + 1, by omega, by go_num, hb2⟩
      case measure => simp [intOf]; omega
    · obtain rfl : k = ps.length := by omega
      go_wp2
      go_ret
      exact ⟨rfl, hb⟩
set_option maxHeartbeats 4000000 in
theorem laws_lqFlash (A A' : Option Addr) (n m c c' : Nat) (f : List Bk) (w : World) (hn : n = f.length) (hm : m = f.length) (hl : f.length < 1000000000000) (hp : ∀ b ∈ f, b.pages.length < 1000000000000) (hF : Fl w A f) (hF' : Fl w A' f) :
    Calls Try.prog 61 #[.slice A n c, .slice A' m c'] w fun e w' => e = .returned (.bool true) ∧ Below w.heap.size w w' := by
  subst hn
  subst hm
  obtain ⟨hs, hF⟩ := hF
  obtain ⟨ks, hF'⟩ := hF'
  have HP := Lib.hid hp
  clear hp
  go_enter Try.func61, Try.ntmps61
  go_wp2
  go_loopw [5] (fun i wr => ∃ (k : Nat), k ≤ f.length ∧ i = .int .i64 k ∧ Below w.heap.size w wr) (fun i _ => f.length - (intOf i).toNat)
  case atStart => exact ⟨0, by omega, rfl, Below.refl _ _⟩
  case round =>
    obtain ⟨k, hk, rfl, hb⟩ := hrel
    by_cases hlt : k < f.length
    · obtain ⟨p, hp⟩ := get_some hlt
      have hpl := HP.out p (List.mem_of_getElem? hp)
      obtain ⟨b, o, rfl⟩ := hF.addr (by rintro rfl; simp at hlt)
      obtain ⟨b', o', rfl⟩ := hF'.addr (by rintro rfl; simp at hlt)
      have hFk := hF.below hb (Nat.le_refl _)
      have hFk' := hF'.below hb (Nat.le_refl _)
      obtain ⟨⟨Ap, cp⟩, _, c0, c1, _, _, hRp, _⟩ := hFk.at_ hp
      obtain ⟨⟨Aq, cq⟩, _, d0, d1, _, _, hRq, _⟩ := hFk'.at_ hp
      have hk1 : (k : Int) < f.length := by omega
      dsimp only at *
      have hbb := lt_of_cell c0
      have hbb' := lt_of_cell d0
      clear hp
      go_wp2
      go_region_held3 (fun w' => w'.cell? ⟨b, o + k * 2, none⟩ = some (.slice Ap p.pages.length cp) ∧ w'.cell? ⟨b, o + k * 2 + 1, none⟩ = some (.int .i64 p.worn) ∧ w'.cell? ⟨b', o' + k * 2, none⟩ = some (.slice Aq p.pages.length cq) ∧ w'.cell? ⟨b', o' + k * 2 + 1, none⟩ = some (.int .i64 p.worn))
        (first | go_keep | trivial)
        (first | (go_at_call 110; refine (laws_lqPages Ap Aq _ cp cq p.pages _ rfl hpl hRp.drew hRq.drew).mono ?_; rintro e w1 ⟨rfl, hb1⟩; replace hb1 := undrew hb1; have e0 := (hb1.cell (p := ⟨b, o + k * 2, none⟩) hbb).trans c0; have e1 := (hb1.cell (p := ⟨b, o + k * 2 + 1, none⟩) hbb).trans c1; have g0 := (hb1.cell (p := ⟨b', o' + k * 2, none⟩) hbb').trans d0; have g1 := (hb1.cell (p := ⟨b', o' + k * 2 + 1, none⟩) hbb').trans d1))
      have hB1 := hb.trans (hb1.mono hb.size)
      go_wp2
      go_roundw
      case rel => exact ⟨k + 1, by omega, by go_num, hB1⟩
      case measure => simp [intOf]; omega
    · obtain rfl : k = f.length := by omega
      go_wp2
      go_ret
      exact ⟨rfl, hb⟩
/-- all blocks but one are alike -/
def others (f g : List Bk) (k : Int) : Prop := f.length = g.length ∧ ∀ j : Nat, (j : Int) ≠ k → f[j]? = g[j]?
end Go.Proofs.Ytbekihiiildgmaa
namespace Go.Proofs.Ytbekihiiildgmaa
set_option linter.unusedVariables false
set_option linter.unusedSimpArgs false
open Go.RowKit Go.Maps
set_option maxHeartbeats 400000
end Go.Proofs.Ytbekihiiildgmaa
namespace Go.Proofs.Ytbekihiiildgmaa
set_option linter.unusedVariables false
set_option linter.unusedSimpArgs false
open Go.RowKit Go.Maps
set_option maxHeartbeats 400000
end Go.Proofs.Ytbekihiiildgmaa
namespace Go.Proofs.Ytbekihiiildgmaa
set_option linter.unusedVariables false
set_option linter.unusedSimpArgs false
open Go.RowKit Go.Maps
set_option maxHeartbeats 400000
theorem OFl.far {w w' : World} {lo hi lo' hi' : Nat} {A : Option Addr} {f : List Bk} (h : OFl w lo hi A f) (ha : Agr (fun b => lo' ≤ b ∧ b < hi') w w') (hd : hi ≤ lo' ∨ hi' ≤ lo) : OFl w' lo hi A f :=
  h.agr ha fun b h1 h2 h3 => by omega
end Go.Proofs.Ytbekihiiildgmaa
namespace Go.Proofs.Ytbekihiiildgmaa
set_option linter.unusedVariables false
set_option linter.unusedSimpArgs false
open Go.RowKit Go.Maps
set_option maxHeartbeats 400000
/-- a store of one's own: a flash and a row of numbers, in blocks from lo on and below hi -/
def OSt (w : World) (lo hi : Nat) (A : Option Addr) (f : List Bk) (D : Option Addr) (xs : List Int) : Prop :=
  ∃ hs, Bks w A f hs ∧ Apt lo hi A hs ∧ Row w D (ints xs) ∧ ∀ b, blk D b → lo ≤ b ∧ b < hi ∧ ¬ blk A b ∧ ∀ (i : Nat) (x : Option Addr × Nat), hs[i]? = some x → ¬ blk x.1 b
theorem OSt.keep {w w' : World} {lo hi : Nat} {A D : Option Addr} {f : List Bk} {xs : List Int} (h : OSt w lo hi A f D xs) (hk : ∀ b, lo ≤ b → b < hi → b < w.heap.size → w'.heap[b]? = w.heap[b]?) : OSt w' lo hi A f D xs := by
  obtain ⟨hs, h1, h2, h3, h4⟩ := h
  refine ⟨hs, h1.keep fun b hb hl => ?_, h2, h3.keep fun b hb hl => hk b (h4 b hb).1 (h4 b hb).2.1 hl, h4⟩
  rcases hb with hb | ⟨x, hx, hb⟩
  · have := h2.top b hb; exact hk b this.1 this.2 hl
  · obtain ⟨i, hi'⟩ := List.getElem?_of_mem hx
    have := h2.in_ i x b hi' hb; exact hk b this.1 this.2.1 hl
theorem OSt.below {w w' : World} {lo hi B : Nat} {A D : Option Addr} {f : List Bk} {xs : List Int} (h : OSt w lo hi A f D xs) (hb : Below B w w') (hB : w.heap.size ≤ B) : OSt w' lo hi A f D xs := h.keep fun b _ _ hl => hb.block b (by omega)
theorem OSt.far {w w' : World} {lo hi lo' hi' : Nat} {A D : Option Addr} {f : List Bk} {xs : List Int} (h : OSt w lo hi A f D xs) (ha : Agr (fun b => lo' ≤ b ∧ b < hi') w w') (hd : hi ≤ lo' ∨ hi' ≤ lo) : OSt w' lo hi A f D xs :=
  h.keep fun b h1 h2 hl => ha.block b hl (by omega)
theorem OSt.ofl {w : World} {lo hi : Nat} {A D : Option Addr} {f : List Bk} {xs : List Int} (h : OSt w lo hi A f D xs) : OFl w lo hi A f := by obtain ⟨hs, h1, h2, _⟩ := h; exact ⟨hs, h1, h2⟩
theorem OSt.disk {w : World} {lo hi : Nat} {A D : Option Addr} {f : List Bk} {xs : List Int} (h : OSt w lo hi A f D xs) : Row w D (ints xs) := by obtain ⟨hs, _, _, h3, _⟩ := h; exact h3
theorem OSt.mono {w : World} {lo hi lo' hi' : Nat} {A D : Option Addr} {f : List Bk} {xs : List Int} (h : OSt w lo hi A f D xs) (h1 : lo' ≤ lo) (h2 : hi ≤ hi') : OSt w lo' hi' A f D xs := by
  obtain ⟨hs, a, b, c, d⟩ := h
  exact ⟨hs, a, b.mono h1 h2, c, fun x hx => by have := d x hx; exact ⟨by omega, by omega, this.2.2⟩⟩
/-- the flash lies in some blocks, the numbers in others -/
theorem OSt.mk' {w : World} {lo hi lf hf d o : Nat} {A : Option Addr} {f : List Bk} {xs : List Int} (h : OFl w lf hf A f) (hr : Row w (some ⟨d, o, none⟩) (ints xs)) (h1 : lo ≤ lf) (h2 : hf ≤ hi) (h3 : lo ≤ d) (h4 : d < hi) (h5 : d < lf ∨ hf ≤ d) : OSt w lo hi A f (some ⟨d, o, none⟩) xs := by
  obtain ⟨hs, a, b⟩ := h
  refine ⟨hs, a, b.mono h1 h2, hr, fun x hx => ?_⟩
  rw [blk_some] at hx
  subst hx
  exact ⟨h3, h4, fun e => by have := b.top d e; omega, fun i y hy e => by have := b.in_ i y d hy e; omega⟩
theorem make_disk (w : World) : (Instr.makeSlice 24 (.int .i64 6) (.int .i64 6)).run Try.prog w = .ok (.slice (some ⟨w.heap.size, 0, none⟩) 6 6) (w.alloc (.cells #[.int .i64 0, .int .i64 0, .int .i64 0, .int .i64 0, .int .i64 0, .int .i64 0] 3)) := by kernel_rfl
def disk0 : List Int := [0, 0, 0, 0, 0, 0]
/-- what StoreNew answers -/
def StNewPost (w : World) (e : Ending) (w' : World) : Prop :=
  ∃ A c D, e = .returned (.agg #[.slice A 4 c, .slice D 6 6]) ∧ 4 ≤ c ∧ OSt w' w.heap.size w'.heap.size A flashNew D disk0 ∧ Below w.heap.size w w'
theorem spec_StoreNew (w : World) : Calls Try.prog 86 #[] w (StNewPost w) := by
  have hmk := make_disk
  go_enter Try.func86, Try.ntmps86
  go_wp2_with fail
  go_region_with (first | (go_at_call 136; refine (spec_FlashNew _).mono ?_; rintro e w1 ⟨g, c, rfl, hc, hO, hb⟩; have r0 : w1.cell? ⟨w.heap.size, 0, none⟩ = some (.slice none 0 0) := (hb.cell (p := ⟨w.heap.size, 0, none⟩) (by simp <;> omega)).trans (by simp); have r1 : w1.cell? ⟨w.heap.size, 1, none⟩ = some (.slice none 0 0) := (hb.cell (p := ⟨w.heap.size, 1, none⟩) (by simp <;> omega)).trans (by simp); have r2 : w1.frozen? ⟨w.heap.size, 0, none⟩ = false := (hb.frozen (p := ⟨w.heap.size, 0, none⟩) (by simp <;> omega)).trans (by simp); have r3 : w1.frozen? ⟨w.heap.size, 1, none⟩ = false := (hb.frozen (p := ⟨w.heap.size, 1, none⟩) (by simp <;> omega)).trans (by simp); have hz : w.heap.size < w1.heap.size := by have := hb.size; simp at this; omega))
  · -- the flash first
    have hB : Below w.heap.size w w1 := Below.trans (by (repeat (first | (with_reducible exact Below.refl _ _) | (with_reducible assumption) | (refine Below.setCell ?_ (by first | omega | exact hB.size | exact hb.size | (have h := hB.size; simp; omega) | (have h := hb.size; simp; omega) | (simp; omega) | simp) _) | (refine Below.alloc ?_ (by first | omega | exact hB.size | exact hb.size | (have h := hB.size; simp; omega) | (have h := hb.size; simp; omega) | (simp; omega) | simp) _) | (refine Below.drew ?_)))) (hb.mono (by simp <;> omega))
    have hO2 : OFl w1 (w.heap.size + 1) w1.heap.size (some ⟨g, 0, none⟩) flashNew := hO.mono (by simp <;> omega) (Nat.le_refl _)
    clear hO hb
    go_wp2
    refine bodyPost_ret (v := .agg #[.slice (some ⟨g, 0, none⟩) 4 c, .slice (some ⟨w1.heap.size, 0, none⟩) 6 6]) (by simp [results, Try.results86, go_sem, hz, r0, r1]) rfl ⟨_, _, _, rfl, hc, ?_, ?_⟩
    · refine OSt.mk' (lf := w.heap.size + 1) (hf := w1.heap.size) (hO2.keep fun d h1 h2 hl => ?_) ?_ (by omega) (by simp) (by omega) (by simp) (.inr (Nat.le_refl _))
      · rw [Below.heap_alloc _ _ _ (by simpa using hl), Below.heap_setCell _ _ _ _ (by simp; omega), Below.heap_setCell _ _ _ _ (by simp; omega)]
      · have := Row.new ((w1.setCell ⟨w.heap.size, 0, none⟩ (.slice (some ⟨g, 0, none⟩) 4 c)).setCell ⟨w.heap.size, 1, none⟩ (.slice (some ⟨w1.heap.size, 0, none⟩) 6 6)) #[.int .i64 0, .int .i64 0, .int .i64 0, .int .i64 0, .int .i64 0, .int .i64 0] 3
        simp only [World.size_setCell] at this
        exact this
    · (repeat (first | (with_reducible exact Below.refl _ _) | (with_reducible assumption) | (refine Below.setCell ?_ (by first | omega | exact hB.size | exact hb.size | (have h := hB.size; simp; omega) | (have h := hb.size; simp; omega) | (simp; omega) | simp) _) | (refine Below.alloc ?_ (by first | omega | exact hB.size | exact hb.size | (have h := hB.size; simp; omega) | (have h := hb.size; simp; omega) | (simp; omega) | simp) _) | (refine Below.drew ?_)))
  · -- the numbers first
    have hB : Below w.heap.size w w1 := Below.trans (by (repeat (first | (with_reducible exact Below.refl _ _) | (with_reducible assumption) | (refine Below.setCell ?_ (by first | omega | exact hB.size | exact hb.size | (have h := hB.size; simp; omega) | (have h := hb.size; simp; omega) | (simp; omega) | simp) _) | (refine Below.alloc ?_ (by first | omega | exact hB.size | exact hb.size | (have h := hB.size; simp; omega) | (have h := hb.size; simp; omega) | (simp; omega) | simp) _) | (refine Below.drew ?_)))) (hb.mono (by simp <;> omega))
    have hO2 : OFl w1 (w.heap.size + 1 + 1) w1.heap.size (some ⟨g, 0, none⟩) flashNew := hO.mono (by simp <;> omega) (Nat.le_refl _)
    have hD : Row w1 (some ⟨w.heap.size + 1, 0, none⟩) (ints disk0) := by
      have := Row.new (w.alloc (.cells #[.slice none 0 0, .slice none 0 0] 26)) #[.int .i64 0, .int .i64 0, .int .i64 0, .int .i64 0, .int .i64 0, .int .i64 0] 3
      simp only [World.size_alloc] at this
      exact (Row.drew this).below hb (Nat.le_refl _)
    have hz2 : w.heap.size + 1 < w1.heap.size := by have := hb.size; simp at this; omega
    clear hO hb
    go_wp2
    refine bodyPost_ret (v := .agg #[.slice (some ⟨g, 0, none⟩) 4 c, .slice (some ⟨w.heap.size + 1, 0, none⟩) 6 6]) (by simp [results, Try.results86, go_sem, hz, r0, r1]) rfl ⟨_, _, _, rfl, hc, ?_, ?_⟩
    · refine OSt.mk' (lf := w.heap.size + 1 + 1) (hf := w1.heap.size) (hO2.keep fun d h1 h2 hl => ?_) (hD.keep fun d hd hl => ?_) (by omega) (by simp) (by omega) (by simpa using hz2) (.inl (by omega))
      · rw [Below.heap_setCell _ _ _ _ (by simp; omega), Below.heap_setCell _ _ _ _ (by simp; omega)]
      · rw [blk_some] at hd
        rw [Below.heap_setCell _ _ _ _ (by simp; omega), Below.heap_setCell _ _ _ _ (by simp; omega)]
    · (repeat (first | (with_reducible exact Below.refl _ _) | (with_reducible assumption) | (refine Below.setCell ?_ (by first | omega | exact hB.size | exact hb.size | (have h := hB.size; simp; omega) | (have h := hb.size; simp; omega) | (simp; omega) | simp) _) | (refine Below.alloc ?_ (by first | omega | exact hB.size | exact hb.size | (have h := hB.size; simp; omega) | (have h := hb.size; simp; omega) | (simp; omega) | simp) _) | (refine Below.drew ?_)))
end Go.Proofs.Ytbekihiiildgmaa
namespace Go.Proofs.Ytbekihiiildgmaa
set_option linter.unusedVariables false
set_option linter.unusedSimpArgs false
open Go.RowKit Go.Maps
set_option maxHeartbeats 400000
theorem spec_l21Steps (s : St) (e : Ev) (A D : Option Addr) (c d : Nat) (w : World) (hf : s.flash.length = 4) (hp : ∀ b ∈ s.flash, b.pages.length = 4) (hm : ∀ b ∈ s.flash, most b < 1000000000000) (hd : s.disk.length = 6) (hF : Fl w A s.flash) (hD : Row w D (ints s.disk)) :
    Calls Try.prog 74 #[.agg #[.slice A 4 c, .slice D 6 d], .agg #[.int .i64 e.kind, .int .i64 e.a, .int .i64 e.b, .int .i64 e.c, .bool e.torn]] w fun r w' => ∃ v, r = .returned v ∧ OwnS w' w.heap.size v (stepsOf s e) ∧ Below w.heap.size w w' := by
  obtain ⟨k, a, b, cc, t⟩ := e
  dsimp only
  have HL := Lib.hid hf
  have HP4 := Lib.hid hp
  have HM := Lib.hid hm
  have HD := Lib.hid hd
  have hB : Below w.heap.size w ((w.alloc (.cells #[.slice A 4 c, .slice D 6 d] 26)).alloc (.cells #[.int .i64 k, .int .i64 a, .int .i64 b, .int .i64 cc, .bool t] 28)) := by (repeat (first | (with_reducible exact Below.refl _ _) | (with_reducible assumption) | (refine Below.setCell ?_ (by first | omega | exact hB.size | exact hb.size | (have h := hB.size; simp; omega) | (have h := hb.size; simp; omega) | (simp; omega) | simp) _) | (refine Below.alloc ?_ (by first | omega | exact hB.size | exact hb.size | (have h := hB.size; simp; omega) | (have h := hb.size; simp; omega) | (simp; omega) | simp) _) | (refine Below.drew ?_)))
  have hFz := (hF.alloc (.cells #[.slice A 4 c, .slice D 6 d] 26)).alloc (.cells #[.int .i64 k, .int .i64 a, .int .i64 b, .int .i64 cc, .bool t] 28)
  have hDz := (hD.alloc (.cells #[.slice A 4 c, .slice D 6 d] 26)).alloc (.cells #[.int .i64 k, .int .i64 a, .int .i64 b, .int .i64 cc, .bool t] 28)
  have hfin : Hid (stepsOf s ⟨k, a, b, cc, t⟩ = if k = 1 then wr s.flash 1 a b else if k = 2 then flush s a else if k = 3 then fill s a else []) := rfl
  clear hf hp hm hd
  by_cases h1 : k = 1
  · subst h1
    have h3 : Hid (stepsOf s ⟨1, a, b, cc, t⟩ = wr s.flash 1 a b) := by rw [Hid, hfin.out, if_pos rfl]
    go_enter Try.func74, Try.ntmps74
    go_wp2_with fail
    refine (spec_l12Write s.flash 1 a b A D c 6 d _ HL.out HP4.out HM.out hFz).mono ?_
    rintro e w1 ⟨v, rfl, hO, hb⟩
    go_wp2
    go_ret
    rw [h3.out]
    exact ⟨_, rfl, hO.mono (by simp; omega), hB.trans (hb.mono (by simp; omega))⟩
  · by_cases h2 : k = 2
    · subst h2
      have h3 : Hid (stepsOf s ⟨2, a, b, cc, t⟩ = flush s a) := by rw [Hid, hfin.out, if_neg h1, if_pos rfl]
      go_enter Try.func74, Try.ntmps74
      go_wp2_with fail
      refine (spec_l12Flush s a A D c d _ HL.out HP4.out HM.out HD.out hFz hDz).mono ?_
      rintro e w1 ⟨v, rfl, hO, hb⟩
      go_wp2
      go_ret
      rw [h3.out]
      exact ⟨_, rfl, hO.mono (by simp; omega), hB.trans (hb.mono (by simp; omega))⟩
    · by_cases h4 : k = 3
      · subst h4
        have h3 : Hid (stepsOf s ⟨3, a, b, cc, t⟩ = fill s a) := by rw [Hid, hfin.out, if_neg h1, if_neg h2, if_pos rfl]
        go_enter Try.func74, Try.ntmps74
        go_wp2_with fail
        refine (spec_l12Fill s a A D c d _ HL.out HP4.out HM.out HD.out hFz hDz).mono ?_
        rintro e w1 ⟨v, rfl, hO, hb⟩
        go_wp2
        go_ret
        rw [h3.out]
        exact ⟨_, rfl, hO.mono (by simp; omega), hB.trans (hb.mono (by simp; omega))⟩
      · have h3 : Hid (stepsOf s ⟨k, a, b, cc, t⟩ = []) := by rw [Hid, hfin.out, if_neg h1, if_neg h2, if_neg h4]
        have e1 : (k == 1) = false := by simp [h1]
        have e2 : (k == 2) = false := by simp [h2]
        have e3 : (k == 3) = false := by simp [h4]
        have hO := OwnS.nil ((w.alloc (.cells #[.slice A 4 c, .slice D 6 d] 26)).alloc (.cells #[.int .i64 k, .int .i64 a, .int .i64 b, .int .i64 cc, .bool t] 28)) w.heap.size (by simp; omega)
        simp only [World.size_alloc] at hO
        go_enter Try.func74, Try.ntmps74
        go_wp2
        go_ret
        rw [h3.out]
        exact ⟨_, rfl, hO, hB.alloc hB.size _⟩
end Go.Proofs.Ytbekihiiildgmaa
namespace Go.Proofs.Ytbekihiiildgmaa
set_option linter.unusedVariables false
set_option linter.unusedSimpArgs false
open Go.RowKit Go.Maps
set_option maxHeartbeats 400000
theorem OSt.alloc' {w : World} {lo hi : Nat} {A D : Option Addr} {f : List Bk} {xs : List Int} (h : OSt w lo hi A f D xs) (o : Obj) : OSt (w.alloc o) lo hi A f D xs := h.below (B := w.heap.size) ((Below.refl _ _).alloc (Nat.le_refl _) _) (Nat.le_refl _)
theorem cell3 {w : World} {a b c : Obj} {i : Nat} {u : Option Value} (h : (w.alloc a).cell? ⟨w.heap.size, i, none⟩ = u) : (((w.alloc a).alloc b).alloc c).cell? ⟨w.heap.size, i, none⟩ = u :=
  ((((Below.refl (w.heap.size + 1) (w.alloc a)).alloc (by simp) b).alloc (by simp) c).cell (p := ⟨w.heap.size, i, none⟩) (by show w.heap.size < _; omega)).trans h
theorem fz3 {w : World} {a b c : Obj} {i : Nat} {u : Bool} (h : (w.alloc a).frozen? ⟨w.heap.size, i, none⟩ = u) : (((w.alloc a).alloc b).alloc c).frozen? ⟨w.heap.size, i, none⟩ = u :=
  ((((Below.refl (w.heap.size + 1) (w.alloc a)).alloc (by simp) b).alloc (by simp) c).frozen (p := ⟨w.heap.size, i, none⟩) (by show w.heap.size < _; omega)).trans h
theorem top3 (w : World) (a b : Obj) (cs : Array Value) (t : TypeId) : Row (((w.alloc a).alloc b).alloc (.cells cs t)) (some ⟨w.heap.size + 1 + 1, 0, none⟩) cs.toList := by
  have := Row.new ((w.alloc a).alloc b) cs t
  simp only [World.size_alloc] at this
  exact this
theorem Row.at0 {w : World} {b : Nat} {vs : List Value} {j : Nat} {u : Value} (h : Row w (some ⟨b, 0, none⟩) vs) (hj : vs[j]? = some u) : w.cell? ⟨b, j, none⟩ = some u ∧ w.frozen? ⟨b, j, none⟩ = false := by
  obtain ⟨b', o', he, hc⟩ := h (by rintro rfl; simp at hj)
  cases he
  have := hc j u hj
  rwa [Nat.zero_add] at this
theorem row_ne6 {xs : List Int} (h : xs.length = 6) : ints xs ≠ [] := by
  intro e
  have := congrArg List.length e
  rw [ints_len, h] at this
  simp at this
set_option maxHeartbeats 4000000 in
set_option maxRecDepth 100000 in
theorem spec_l12Do (s : St) (x : Sp) (torn : Bool) (A D : Option Addr) (c d lo hi : Nat) (w : World) (hs : stFine s) (hx : spFine x) (hhi : hi ≤ w.heap.size) (hO : OSt w lo hi A s.flash D s.disk) :
    Calls Try.prog 134 #[.agg #[.slice A 4 c, .slice D 6 d], .agg #[.int .i64 x.kind, .int .i64 x.addr, .int .i64 x.val, .int .i64 x.block, .int .i64 x.rc.kind, .int .i64 x.rc.seq, .int .i64 x.rc.addr, .int .i64 x.rc.val], .bool torn] w fun r w' =>
      r = .returned (.agg #[.slice A 4 c, .slice D 6 d]) ∧ OSt w' lo hi A (doStep s x torn).flash D (doStep s x torn).disk ∧ Agr (fun b => lo ≤ b ∧ b < hi) w w' := by
  obtain ⟨k, a, v, b, rc⟩ := x
  dsimp only
  have hfin : Hid (doStep s ⟨k, a, v, b, rc⟩ torn = if k = 1 then (if torn then s else { s with disk := s.disk.set (a - 1).toNat v }) else if k = 2 then { s with flash := (wipeR s.flash b.toNat torn).1 } else if k = 3 then { s with flash := (writeR s.flash b.toNat rc torn).1 } else s) := rfl
  obtain ⟨hsf, hsd, hsv⟩ := hs
  obtain ⟨hx1, hx2, hx3⟩ := hx
  dsimp only at hx1 hx2 hx3
  have hOS := Lib.hid hO
  obtain ⟨hs, hBk, hApt, hR, hdj⟩ := hO
  have HDJ := Lib.hid hdj
  obtain ⟨db, dO, rfl⟩ := hR.addr (row_ne6 hsd)
  have hdb := HDJ.out db (blk_some.2 rfl)
  by_cases h1 : k = 1
  · subst h1
    obtain ⟨ha1, ha2, hv1, hv2⟩ := hx1 rfl
    obtain ⟨i, rfl⟩ : ∃ i : Nat, a = i + 1 := ⟨(a - 1).toNat, by omega⟩
    have hi6 : i < 6 := by omega
    have hi6' : (i : Int) < 6 := by omega
    cases torn
    · have h3 : Hid (doStep s ⟨1, i + 1, v, b, rc⟩ false = { s with disk := s.disk.set i v }) := by rw [Hid, hfin.out, if_pos rfl, show ((i : Int) + 1 - 1).toNat = i by omega]; rfl
      obtain ⟨u, hu⟩ := get_some (l := s.disk) (k := i) (by omega)
      obtain ⟨c0, f0⟩ := hR.int_ hu
      have hlt := lt_of_cell c0
      have hW := wrote_one c0 (.int .i64 v)
      have hR2 : Row (w.setCell ⟨db, dO + i, none⟩ (.int .i64 v)) (some ⟨db, dO, none⟩) (ints (s.disk.set i v)) := by
        rw [ints_set]
        exact hW.row hR (by rw [ints_len]; simp; omega)
      have hO2 : OSt (w.setCell ⟨db, dO + i, none⟩ (.int .i64 v)) lo hi A s.flash (some ⟨db, dO, none⟩) (s.disk.set i v) :=
        ⟨hs, hBk.keep fun y hy hl => hW.agr.block y hl (by
          rintro rfl
          rcases hy with hy | ⟨z, hz, hy⟩
          · exact hdb.2.2.1 hy
          · obtain ⟨j, hj⟩ := List.getElem?_of_mem hz
            exact hdb.2.2.2 j z hj hy), hApt, hR2, HDJ.out⟩
      have hA2 : Agr (fun y => lo ≤ y ∧ y < hi) w (w.setCell ⟨db, dO + i, none⟩ (.int .i64 v)) := hW.agr.mono fun y e => by rw [e]; exact ⟨hdb.1, hdb.2.1⟩
      have e1 : IntKind.i64.wrap ((i : Int) + 1 - 1) = i := by rw [show (i : Int) + 1 - 1 = i by omega]; exact IntWalk.i64_in _ (by omega)
      have e2 : IntKind.i64.wrap (i : Int) = i := IntWalk.i64_in _ (by omega)
      have HU := Lib.hid hu
      have m1 : db < w.heap.size + 1 := by omega
      have m2 : db < w.heap.size + 1 + 1 := by omega
      have n0 : db ≠ w.heap.size := by omega
      have n0' : w.heap.size ≠ db := by omega
      have n1 : db ≠ w.heap.size + 1 := by omega
      have n1' : w.heap.size + 1 ≠ db := by omega
      have n2 : db ≠ w.heap.size + 1 + 1 := by omega
      have n2' : w.heap.size + 1 + 1 ≠ db := by omega
      clear hu hW hsf hsd hsv hfin hdj
      go_enter Try.func134, Try.ntmps134
      go_wp2
      refine bodyPost_ret (v := .agg #[.slice A 4 c, .slice (some ⟨db, dO, none⟩) 6 d]) (by simp [results, Try.results134, go_sem]) rfl ⟨rfl, ?_, ?_⟩
      · rw [h3.out]; exact ((hO2.alloc' _).alloc' _).alloc' _
      · exact ((hA2.alloc _).alloc _).alloc _
    · have h3 : Hid (doStep s ⟨1, i + 1, v, b, rc⟩ true = s) := by rw [Hid, hfin.out, if_pos rfl]; rfl
      clear hsf hsd hsv hfin hdj
      go_enter Try.func134, Try.ntmps134
      go_wp2
      refine bodyPost_ret (v := .agg #[.slice A 4 c, .slice (some ⟨db, dO, none⟩) 6 d]) (by simp [results, Try.results134, go_sem]) rfl ⟨rfl, ?_, ?_⟩
      · rw [h3.out]; exact ((hOS.out.alloc' _).alloc' _).alloc' _
      · exact (((Agr.refl _ _).alloc _).alloc _).alloc _
  · have hi4s : ∀ y ∈ s.flash, y.pages.length = 4 ∧ 0 ≤ y.worn ∧ y.worn ≤ 200 := fun y hy => ⟨(hsf.2 y hy).1, (hsf.2 y hy).2.1, (hsf.2 y hy).2.2.1⟩
    have hi4p : ∀ y ∈ s.flash, y.pages.length = 4 := fun y hy => (hsf.2 y hy).1
    have HS4 := Lib.hid hi4s
    have HP4 := Lib.hid hi4p
    clear hi4s hi4p
    by_cases h2 : k = 2
    · subst h2
      have hb := hx2 (.inl rfl)
      obtain ⟨hb1, hb2⟩ := hb
      obtain ⟨i, rfl⟩ := Int.eq_ofNat_of_zero_le hb1
      have hi4 : i < 4 := by omega
      obtain ⟨g, o, rfl⟩ := hBk.addr (by intro e; have := hsf.1; rw [e] at this; simp at this)
      have h3 : Hid (doStep s ⟨2, a, v, i, rc⟩ torn = { s with flash := (wipeR s.flash i torn).1 }) := by
        rw [Hid, hfin.out, if_neg (by omega), if_pos rfl, Int.toNat_natCast]
      obtain ⟨W, hW⟩ : ∃ W, W = ((w.alloc (.cells #[.slice (some ⟨g, o, none⟩) 4 c, .slice (some ⟨db, dO, none⟩) 6 d] 26)).alloc (.cells #[.int .i64 2, .int .i64 a, .int .i64 v, .int .i64 i, .int .i64 rc.kind, .int .i64 rc.seq, .int .i64 rc.addr, .int .i64 rc.val] 47)).alloc (.cells #[.slice none 0 0, .slice none 0 0] 26) := ⟨_, rfl⟩
      have hBkW : Bks W (some ⟨g, o, none⟩) s.flash hs := by rw [hW]; exact ((hBk.alloc _).alloc _).alloc _
      have hRW : Row W (some ⟨db, dO, none⟩) (ints s.disk) := by rw [hW]; exact ((hR.alloc _).alloc _).alloc _
      have hAW : Agr (fun y => lo ≤ y ∧ y < hi) w W := by rw [hW]; exact (((Agr.refl _ _).alloc _).alloc _).alloc _
      have b0 : W.cell? ⟨w.heap.size, 0, none⟩ = some (.slice (some ⟨g, o, none⟩) 4 c) := by rw [hW]; exact cell3 (by simp)
      have b1 : W.cell? ⟨w.heap.size, 1, none⟩ = some (.slice (some ⟨db, dO, none⟩) 6 d) := by rw [hW]; exact cell3 (by simp)
      have b2 : W.frozen? ⟨w.heap.size, 0, none⟩ = false := by rw [hW]; exact fz3 (by simp)
      have q0 : W.cell? ⟨w.heap.size + 1 + 1, 0, none⟩ = some (.slice none 0 0) := by rw [hW]; exact ((top3 w _ _ #[.slice none 0 0, .slice none 0 0] 26).at0 (j := 0) rfl).1
      have q1 : W.cell? ⟨w.heap.size + 1 + 1, 1, none⟩ = some (.slice none 0 0) := by rw [hW]; exact ((top3 w _ _ #[.slice none 0 0, .slice none 0 0] 26).at0 (j := 1) rfl).1
      have q2 : W.frozen? ⟨w.heap.size + 1 + 1, 0, none⟩ = false := by rw [hW]; exact ((top3 w _ _ #[.slice none 0 0, .slice none 0 0] 26).at0 (j := 0) rfl).2
      have q3 : W.frozen? ⟨w.heap.size + 1 + 1, 1, none⟩ = false := by rw [hW]; exact ((top3 w _ _ #[.slice none 0 0, .slice none 0 0] 26).at0 (j := 1) rfl).2
      have hWs : W.heap.size = w.heap.size + 1 + 1 + 1 := by rw [hW]; simp
      have HW := Lib.hid hW
      have HSF := Lib.hid hsf
      clear hsf hsd hsv hfin hdj hW
      go_enter Try.func134, Try.ntmps134
      go_wp2_with fail
      rw [← HW.out]
      refine (spec_l2Wipe' s.flash i lo hi g o c torn _ HSF.out.1 HS4.out hi4 hs hBkW hApt).mono ?_
      rintro e w1 ⟨rfl, hBk1, hA1⟩
      have hnot : ∀ j, w.heap.size ≤ j → ¬ fblk (some ⟨g, o, none⟩) hs j := fun j hj h => by have := hApt.fblk h; omega
      replace b0 := (hA1.cell (by omega) (hnot _ (by omega)) 0).trans b0
      replace b1 := (hA1.cell (by omega) (hnot _ (by omega)) 1).trans b1
      replace b2 := (hA1.fz (by omega) (hnot _ (by omega)) 0).trans b2
      replace q0 := (hA1.cell (by omega) (hnot _ (by omega)) 0).trans q0
      replace q1 := (hA1.cell (by omega) (hnot _ (by omega)) 1).trans q1
      replace q2 := (hA1.fz (by omega) (hnot _ (by omega)) 0).trans q2
      replace q3 := (hA1.fz (by omega) (hnot _ (by omega)) 1).trans q3
      have hR1 : Row w1 (some ⟨db, dO, none⟩) (ints s.disk) := hRW.agr hA1 fun y hy hS => by
        rcases hS with h | ⟨j, z, hz, h⟩
        · exact (HDJ.out y hy).2.2.1 h
        · exact (HDJ.out y hy).2.2.2 j z hz h
      have hO1 : OSt w1 lo hi (some ⟨g, o, none⟩) (wipeR s.flash i torn).1 (some ⟨db, dO, none⟩) s.disk := ⟨hs, hBk1, hApt, hR1, HDJ.out⟩
      have hA2 : Agr (fun y => lo ≤ y ∧ y < hi) w w1 := hAW.trans hA1 fun y _ hy => hApt.fblk hy
      have hs1 := hA1.size
      clear hA1 hBk1 hR1 hRW hBkW hAW hnot
      go_wp2
      refine bodyPost_ret (v := .agg #[.slice (some ⟨g, o, none⟩) 4 c, .slice (some ⟨db, dO, none⟩) 6 d]) (by simp [results, Try.results134, go_sem, b0, b1, q0, q1]) rfl ⟨rfl, ?_, ?_⟩
      · rw [h3.out]
        have hbb : Below w.heap.size w1 (((w1.setCell ⟨w.heap.size, 0, none⟩ (.slice (some ⟨g, o, none⟩) 4 c)).setCell ⟨w.heap.size + 1 + 1, 0, none⟩ (.slice (some ⟨g, o, none⟩) 4 c)).setCell ⟨w.heap.size + 1 + 1, 1, none⟩ (.slice (some ⟨db, dO, none⟩) 6 d)) := by (repeat (first | (with_reducible exact Below.refl _ _) | (with_reducible assumption) | (refine Below.setCell ?_ (by first | omega | exact hB.size | exact hb.size | (have h := hB.size; simp; omega) | (have h := hb.size; simp; omega) | (simp; omega) | simp) _) | (refine Below.alloc ?_ (by first | omega | exact hB.size | exact hb.size | (have h := hB.size; simp; omega) | (have h := hb.size; simp; omega) | (simp; omega) | simp) _) | (refine Below.drew ?_)))
        exact hO1.keep fun y _ h2 _ => hbb.block y (by omega)
      · exact ((hA2.setCell (.inl (by simp)) _).setCell (.inl (by show w.heap.size ≤ w.heap.size + 1 + 1; omega)) _).setCell (.inl (by show w.heap.size ≤ w.heap.size + 1 + 1; omega)) _
    · by_cases h4 : k = 3
      · subst h4
        have hb := hx2 (.inr rfl)
        obtain ⟨hb1, hb2⟩ := hb
        obtain ⟨i, rfl⟩ := Int.eq_ofNat_of_zero_le hb1
        have hi4 : i < 4 := by omega
        obtain ⟨g, o, rfl⟩ := hBk.addr (by intro e; have := hsf.1; rw [e] at this; simp at this)
        have h3 : Hid (doStep s ⟨3, a, v, i, rc⟩ torn = { s with flash := (writeR s.flash i rc torn).1 }) := by
          rw [Hid, hfin.out, if_neg (by omega), if_neg (by omega), if_pos rfl, Int.toNat_natCast]
        obtain ⟨W, hW⟩ : ∃ W, W = ((w.alloc (.cells #[.slice (some ⟨g, o, none⟩) 4 c, .slice (some ⟨db, dO, none⟩) 6 d] 26)).alloc (.cells #[.int .i64 3, .int .i64 a, .int .i64 v, .int .i64 i, .int .i64 rc.kind, .int .i64 rc.seq, .int .i64 rc.addr, .int .i64 rc.val] 47)).alloc (.cells #[.slice none 0 0, .slice none 0 0] 26) := ⟨_, rfl⟩
        have hBkW : Bks W (some ⟨g, o, none⟩) s.flash hs := by rw [hW]; exact ((hBk.alloc _).alloc _).alloc _
        have hRW : Row W (some ⟨db, dO, none⟩) (ints s.disk) := by rw [hW]; exact ((hR.alloc _).alloc _).alloc _
        have hAW : Agr (fun y => lo ≤ y ∧ y < hi) w W := by rw [hW]; exact (((Agr.refl _ _).alloc _).alloc _).alloc _
        have b0 : W.cell? ⟨w.heap.size, 0, none⟩ = some (.slice (some ⟨g, o, none⟩) 4 c) := by rw [hW]; exact cell3 (by simp)
        have b1 : W.cell? ⟨w.heap.size, 1, none⟩ = some (.slice (some ⟨db, dO, none⟩) 6 d) := by rw [hW]; exact cell3 (by simp)
        have b2 : W.frozen? ⟨w.heap.size, 0, none⟩ = false := by rw [hW]; exact fz3 (by simp)
        have q0 : W.cell? ⟨w.heap.size + 1 + 1, 0, none⟩ = some (.slice none 0 0) := by rw [hW]; exact ((top3 w _ _ #[.slice none 0 0, .slice none 0 0] 26).at0 (j := 0) rfl).1
        have q1 : W.cell? ⟨w.heap.size + 1 + 1, 1, none⟩ = some (.slice none 0 0) := by rw [hW]; exact ((top3 w _ _ #[.slice none 0 0, .slice none 0 0] 26).at0 (j := 1) rfl).1
        have q2 : W.frozen? ⟨w.heap.size + 1 + 1, 0, none⟩ = false := by rw [hW]; exact ((top3 w _ _ #[.slice none 0 0, .slice none 0 0] 26).at0 (j := 0) rfl).2
        have q3 : W.frozen? ⟨w.heap.size + 1 + 1, 1, none⟩ = false := by rw [hW]; exact ((top3 w _ _ #[.slice none 0 0, .slice none 0 0] 26).at0 (j := 1) rfl).2
        have hWs : W.heap.size = w.heap.size + 1 + 1 + 1 := by rw [hW]; simp
        have HW := Lib.hid hW
        have HSF := Lib.hid hsf
        clear hsf hsd hsv hfin hdj hW
        go_enter Try.func134, Try.ntmps134
        go_wp2_with fail
        rw [← HW.out]
        refine (spec_l2Write' s.flash i lo hi g o c rc torn _ HSF.out.1 HP4.out hi4 hs hBkW hApt).mono ?_
        rintro e w1 ⟨rfl, hBk1, hA1⟩
        have hnot : ∀ j, w.heap.size ≤ j → ¬ fblk (some ⟨g, o, none⟩) hs j := fun j hj h => by have := hApt.fblk h; omega
        replace b0 := (hA1.cell (by omega) (hnot _ (by omega)) 0).trans b0
        replace b1 := (hA1.cell (by omega) (hnot _ (by omega)) 1).trans b1
        replace b2 := (hA1.fz (by omega) (hnot _ (by omega)) 0).trans b2
        replace q0 := (hA1.cell (by omega) (hnot _ (by omega)) 0).trans q0
        replace q1 := (hA1.cell (by omega) (hnot _ (by omega)) 1).trans q1
        replace q2 := (hA1.fz (by omega) (hnot _ (by omega)) 0).trans q2
        replace q3 := (hA1.fz (by omega) (hnot _ (by omega)) 1).trans q3
        have hR1 : Row w1 (some ⟨db, dO, none⟩) (ints s.disk) := hRW.agr hA1 fun y hy hS => by
          rcases hS with h | ⟨j, z, hz, h⟩
          · exact (HDJ.out y hy).2.2.1 h
          · exact (HDJ.out y hy).2.2.2 j z hz h
        have hO1 : OSt w1 lo hi (some ⟨g, o, none⟩) (writeR s.flash i rc torn).1 (some ⟨db, dO, none⟩) s.disk := ⟨hs, hBk1, hApt, hR1, HDJ.out⟩
        have hA2 : Agr (fun y => lo ≤ y ∧ y < hi) w w1 := hAW.trans hA1 fun y _ hy => hApt.fblk hy
        have hs1 := hA1.size
        clear hA1 hBk1 hR1 hRW hBkW hAW hnot
        go_wp2
        refine bodyPost_ret (v := .agg #[.slice (some ⟨g, o, none⟩) 4 c, .slice (some ⟨db, dO, none⟩) 6 d]) (by simp [results, Try.results134, go_sem, b0, b1, q0, q1]) rfl ⟨rfl, ?_, ?_⟩
        · rw [h3.out]
          have hbb : Below w.heap.size w1 (((w1.setCell ⟨w.heap.size, 0, none⟩ (.slice (some ⟨g, o, none⟩) 4 c)).setCell ⟨w.heap.size + 1 + 1, 0, none⟩ (.slice (some ⟨g, o, none⟩) 4 c)).setCell ⟨w.heap.size + 1 + 1, 1, none⟩ (.slice (some ⟨db, dO, none⟩) 6 d)) := by (repeat (first | (with_reducible exact Below.refl _ _) | (with_reducible assumption) | (refine Below.setCell ?_ (by first | omega | exact hB.size | exact hb.size | (have h := hB.size; simp; omega) | (have h := hb.size; simp; omega) | (simp; omega) | simp) _) | (refine Below.alloc ?_ (by first | omega | exact hB.size | exact hb.size | (have h := hB.size; simp; omega) | (have h := hb.size; simp; omega) | (simp; omega) | simp) _) | (refine Below.drew ?_)))
          exact hO1.keep fun y _ h2 _ => hbb.block y (by omega)
        · exact ((hA2.setCell (.inl (by simp)) _).setCell (.inl (by show w.heap.size ≤ w.heap.size + 1 + 1; omega)) _).setCell (.inl (by show w.heap.size ≤ w.heap.size + 1 + 1; omega)) _
      · have h3 : Hid (doStep s ⟨k, a, v, b, rc⟩ torn = s) := by rw [Hid, hfin.out, if_neg h1, if_neg h2, if_neg h4]
        have e1 : (k == 1) = false := by simp [h1]
        have e2 : (k == 2) = false := by simp [h2]
        have e3 : (k == 3) = false := by simp [h4]
        clear hsf hsd hsv hfin hdj
        go_enter Try.func134, Try.ntmps134
        go_wp2
        refine bodyPost_ret (v := .agg #[.slice A 4 c, .slice (some ⟨db, dO, none⟩) 6 d]) (by simp [results, Try.results134, go_sem]) rfl ⟨rfl, ?_, ?_⟩
        · rw [h3.out]; exact ((hOS.out.alloc' _).alloc' _).alloc' _
        · exact (((Agr.refl _ _).alloc _).alloc _).alloc _
end Go.Proofs.Ytbekihiiildgmaa
namespace Go.Proofs.Ytbekihiiildgmaa
set_option linter.unusedVariables false
set_option linter.unusedSimpArgs false
open Go.RowKit
def OnlyNormal (K : Act → World → Prop) : Exit → Act → World → Prop
  | .normal, a, w => K a w
  | _, _, _ => False
def noDefer (o : Oper) : Bool := match o.op with
  | .defer _ => false
  | _ => true
theorem noDefer_spec {o : Oper} (h : noDefer o = true) : ∀ c, o.op ≠ .defer c := fun c e => by
  unfold noDefer at h; rw [e] at h; cases h
section
variable {P : Program} {ops : Array Oper} {md : Region.Mode} {K : Act → World → Prop} {Q : Exit → Act → World → Prop} {l n : Nat}
theorem op_round {i : Nat} {K1 K2 : Act → World → Prop} {a : Act} {w : World} (hnd : ops.all noDefer = true) (hK : ∀ a w, K1 a w → K2 a w) (h : wpOp P ops (OnlyNormal K) i K1 a w) :
    wpOpIn (Fence.wide.inRound l) n P ops Q i K2 a w := by
  unfold wpOp at h
  unfold wpOpIn
  cases ho : ops[i]? with
  | none => simp only [ho] at h ⊢; exact hK _ _ h
  | some o =>
    simp only [ho] at h ⊢
    have hd : ∀ c, o.op ≠ .defer c := noDefer_spec (by
      rw [Array.all_eq_true'] at hnd
      exact hnd o (Array.mem_of_getElem? ho))
    split
    · rename_i hw
      simp only [hw, if_true] at h
      rcases h with h | ⟨_, _, _, h⟩
      · unfold Oper.wp at h
        refine ⟨fun _ _ => trivial, ?_⟩
        rw [Oper.semAt_eq _ _ _ hd]
        generalize (execOp a.eval o).run P w = r at h
        cases r with
        | ok nx w' =>
          cases nx with
          | value v => exact hK _ _ h
          | skip => exact hK _ _ h
          | defer d => exact hK _ _ h
          | enter f args =>
            refine ⟨fun hd => (by cases hd), ?_⟩
            refine (callsIn_wide.2 (Calls.mono (R := fun | .returned v, w'' => K1 (a.put o.dst v) w'' | .panicked chain, w'' => OnlyNormal K (.panic chain) a w'' | .outgrown, _ => LetsOut (OnlyNormal K)) h fun e w'' he => ?_)).inRound l
            cases e with
            | returned v => exact hK _ _ he
            | panicked c => exact he.elim
            | outgrown => obtain ⟨_, _, hf⟩ := he; exact hf.elim
          | row row args => exact ⟨fun hd => (by cases hd), fun c cs _ => by
              obtain ⟨v, w'', r, s⟩ := h c cs
              exact ⟨v, w'', hK _ _ r, stepsIn_wide.2 s⟩⟩
          | round _ _ _ _ _ => exact h.elim
          | _ => exact h.elim
        | halt hh w' =>
          cases hh with
          | panic v => exact h.elim
          | _ => exact h.elim
      · exact h.elim
    · rename_i hw
      simp only [hw] at h
      exact ⟨fun _ _ => trivial, hK _ _ h⟩
theorem any_round (hnd : ops.all noDefer = true) (hQ : ∀ a w, K a w → Q .normal a w) : ∀ (fuel : Nat) (listed : Array Bool) (a : Act) (w : World), wpAny P md ops (OnlyNormal K) fuel listed a w → wpAnyIn (Fence.wide.inRound l) n P md ops Q fuel listed a w
  | 0, _, _, _, h => ⟨h.1, hQ _ _ h.2⟩
  | fuel + 1, listed, a, w, h => ⟨fun e => hQ _ _ (h.1 e), fun i hi => op_round hnd (fun a w => any_round hnd hQ fuel _ a w) (h.2 i hi)⟩
/-- a region in a round, by the plain law of any order -/
theorem region_round {id : Nat} {a : Act} {w : World} (hm : P.follows .mixedOrders = true) (hnd : ops.all noDefer = true)
    (h : wpAny P .any ops (OnlyNormal fun a w => Q .normal a w) ops.size (Array.replicate ops.size false) a w.drew) : (Code.region id ops true).wpIn (Fence.wide.inRound l) n P Q a w :=
  wpIn_region_any hm (any_round hnd (fun _ _ h => h) _ _ _ _ h)
/-- the same, by the law with a condition on the world -/
theorem region_round_held {S : World → Prop} {id : Nat} {a : Act} {w : World} (hm : P.follows .mixedOrders = true) (hnd : ops.all noDefer = true) (hS : S w.drew)
    (h : S w.drew → wpAnyH P .any ops (OnlyNormal fun a w => Q .normal a w) S ops.size (Array.replicate ops.size false) a w.drew) : (Code.region id ops true).wpIn (Fence.wide.inRound l) n P Q a w :=
  region_round hm hnd (wpAny_of_held _ _ _ _ (h hS))
end
end Go.Proofs.Ytbekihiiildgmaa
