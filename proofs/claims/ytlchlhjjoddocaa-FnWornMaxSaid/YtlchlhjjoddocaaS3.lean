/- Walks: the reference's copies. -/
import Derived.Test.YtlchlhjjoddocaaS
import Derived.Deep.AppendLies
import Derived.Deep.RegionHeld3
namespace Go.Proofs.Ytlchlhjjoddocaa
set_option linter.unusedVariables false
set_option linter.unusedSimpArgs false
open Go.RowKit Go.Maps
set_option maxHeartbeats 400000
theorem Try.info3_page : (Try.prog.info? 42).map (fun i => (i.zero, i.size, i.bytes)) = some (some (.agg #[.int .i64 0, .int .i64 0, .int .i64 0, .int .i64 0, .int .i64 0]), 5, 40) := by kernel_rfl
theorem Try.info3_block : (Try.prog.info? 36).map (fun i => (i.zero, i.size, i.bytes)) = some (some (.agg #[.slice none 0 0, .int .i64 0]), 2, 32) := by kernel_rfl
/-- a flash that is being built by append: k blocks so far -/
structure Bld (B : Nat) (w : World) (g k c : Nat) (f : List Bk) (ks : List (Option Addr × Nat)) : Prop where
  own : w.ownsRow B 36 2 (.slice (some ⟨g, 0, none⟩) k c) k (hdrs f ks)
  bks : Bks w (some ⟨g, 0, none⟩) f ks
  apt : Apt B w.heap.size (some ⟨g, 0, none⟩) ks
theorem Apt.snoc {lo hi hi' g g' : Nat} {hs : List (Option Addr × Nat)} {x : Option Addr × Nat} (h : Apt lo hi (some ⟨g, 0, none⟩) hs) (hg : g' = g ∨ hi ≤ g') (hg' : g' < hi') (hx : ∀ b, blk x.1 b → hi ≤ b ∧ b < hi' ∧ b ≠ g') (hlh : lo ≤ hi) (hh : hi ≤ hi') : Apt lo hi' (some ⟨g', 0, none⟩) (hs ++ [x]) := by
  have hgl := h.top g (by rw [blk_some])
  have key : ∀ (j : Nat) (y : Option Addr × Nat), (hs ++ [x])[j]? = some y → (j = hs.length ∧ y = x) ∨ (j < hs.length ∧ hs[j]? = some y) := fun j y hy => by
    by_cases hj : j < hs.length
    · rw [List.getElem?_append_left hj] at hy; exact .inr ⟨hj, hy⟩
    · rw [List.getElem?_append_right (by omega)] at hy
      have hl := (List.getElem?_eq_some_iff.1 hy).1
      simp at hl
      have e : j = hs.length := by omega
      subst e
      simp at hy
      exact .inl ⟨rfl, hy.symm⟩
  refine ⟨fun b hb => by rw [blk_some] at hb; omega, fun j y b hy hb => ?_, fun j m y z b hy hz hb hc => ?_⟩
  · rcases key j y hy with ⟨_, ey⟩ | ⟨_, hy'⟩
    · have := hx b (ey ▸ hb); exact ⟨by omega, by omega, by rw [blk_some]; omega⟩
    · have := h.in_ j y b hy' hb
      rw [blk_some] at this
      exact ⟨by omega, by omega, by rw [blk_some]; omega⟩
  · rcases key j y hy with ⟨ej, ey⟩ | ⟨_, hy'⟩ <;> rcases key m z hz with ⟨em, ez⟩ | ⟨_, hz'⟩
    · omega
    · have h1 := hx b (ey ▸ hb); have h2 := h.in_ m z b hz' hc; omega
    · have h1 := hx b (ez ▸ hc); have h2 := h.in_ j y b hy' hb; omega
    · exact h.two j m y z b hy' hz' hb hc
theorem Bks.snoc {w w' : World} {g g' : Nat} {f : List Bk} {hs : List (Option Addr × Nat)} {b : Bk} {x : Option Addr × Nat} (h : Bks w (some ⟨g, 0, none⟩) f hs) (hk : ∀ (i : Nat) (y : Option Addr × Nat), hs[i]? = some y → ∀ c, blk y.1 c → c < w.heap.size → w'.heap[c]? = w.heap[c]?)
    (hr : Row w' (some ⟨g', 0, none⟩) (hdrs f hs ++ [.slice x.1 b.pages.length x.2, .int .i64 b.worn])) (hp : Row w' x.1 (pgs b.pages)) (hc : b.pages.length ≤ x.2) : Bks w' (some ⟨g', 0, none⟩) (f ++ [b]) (hs ++ [x]) := by
  refine ⟨by simp [h.len], by rw [hdrs_append f [b] hs [x] h.len]; exact hr, fun i c y hc' hy => ?_⟩
  have hl := h.len
  by_cases hi : i < f.length
  · rw [List.getElem?_append_left hi] at hc'
    rw [List.getElem?_append_left (by omega)] at hy
    obtain ⟨h1, h2⟩ := h.pg i c y hc' hy
    exact ⟨h1.keep (hk i y hy), h2⟩
  · rw [List.getElem?_append_right (by omega)] at hc'
    rw [List.getElem?_append_right (by omega)] at hy
    have hl' := (List.getElem?_eq_some_iff.1 hc').1
    simp at hl'
    have e : i = f.length := by omega
    subst e
    simp at hc'
    rw [hl] at hy
    simp at hy
    subst hc'; subst hy
    exact ⟨hp, hc⟩
theorem ownsRow_cap {w : World} {base : Nat} {e : TypeId} {size n c g : Nat} {xs : List Value} (h : w.ownsRow base e size (.slice (some ⟨g, 0, none⟩) n c) n xs) : n ≤ c := by
  obtain ⟨_, ⟨hv, _⟩ | ⟨g', cap, cur, hv, _, _, hc, _⟩⟩ := h
  · cases hv
  · cases hv; exact hc
/-- a block more: its pages lie at g1, the headers at g2 -/
theorem Bld.step {B : Nat} {wr w1 w2 : World} {g k c g1 c1 g2 c2 n : Nat} {f : List Bk} {ks : List (Option Addr × Nat)} {b : Bk} {o : Obj} (h : Bld B wr g k c f ks) (hn : b.pages.length = n) (hB : B ≤ wr.heap.size)
    (h1 : Row w1 (some ⟨g1, 0, none⟩) (pgs b.pages)) (hc1 : n ≤ c1) (hg1 : wr.heap.size ≤ g1) (hl1 : g1 < w1.heap.size) (hb1 : Below wr.heap.size wr w1)
    (hown : w2.ownsRow B 36 2 (.slice (some ⟨g2, 0, none⟩) (k + 1) c2) (k + 1) (hdrs f ks ++ [.slice (some ⟨g1, 0, none⟩) n c1, .int .i64 b.worn])) (hgr : (w1.alloc o).grownBy w2 (some g)) (hg2 : some g = some g2 ∨ g2 = w1.heap.size + 1) (hl2 : g2 < w2.heap.size) :
    Bld B w2 g2 (k + 1) c2 (f ++ [b]) (ks ++ [(some ⟨g1, 0, none⟩, c1)]) := by
  have hgl := h.apt.top g (by rw [blk_some])
  have hs1 := hb1.size
  have hs2 := hgr.size
  rw [World.size_alloc] at hs2
  have hkeep : ∀ i, i < w1.heap.size → i ≠ g → w2.heap[i]? = w1.heap[i]? := fun i hi hne => (hgr.block i (by rw [World.size_alloc]; omega) (by intro e; cases e; exact hne rfl)).trans (Below.heap_alloc w1 o i hi)
  refine ⟨by rw [hdrs_append _ _ _ _ h.bks.len]; simp only [hdrs, hn]; exact hown, ?_, ?_⟩
  · refine h.bks.snoc (fun i y hy d hd hl => ?_) (by rw [hn]; exact Row.of_own hown) (h1.keep fun d hd _ => hkeep d ?_ ?_) (by rw [hn]; exact hc1)
    · have h3 := h.apt.in_ i y d hy hd
      rw [blk_some] at h3
      rw [hkeep d (by omega) (by omega)]
      exact hb1.block d hl
    · rw [blk_some] at hd; omega
    · rw [blk_some] at hd; omega
  · refine h.apt.snoc (hi' := w2.heap.size) ?_ hl2 (fun d hd => ?_) hB (by omega)
    · rcases hg2 with e | e
      · cases e; exact .inl rfl
      · exact .inr (by omega)
    · rw [blk_some] at hd
      refine ⟨by omega, by omega, ?_⟩
      rcases hg2 with e | e
      · cases e; omega
      · omega
set_option maxRecDepth 100000 in
set_option maxHeartbeats 3200000 in
theorem spec_l2Copy (A : Option Addr) (c : Nat) (f : List Bk) (w : World) (hl : f.length = 4) (hp : ∀ b ∈ f, b.pages.length = 4) (hF : Fl w A f) :
    Calls Try.prog 39 #[.slice A 4 c] w fun e w' =>
      ∃ g c', e = .returned (.slice (some ⟨g, 0, none⟩) 4 c') ∧ 4 ≤ c' ∧ OFl w' w.heap.size w'.heap.size (some ⟨g, 0, none⟩) f ∧ Below w.heap.size w w' := by
  obtain ⟨hs, hF⟩ := hF
  obtain ⟨bk, off, rfl⟩ := hF.addr (by rintro rfl; simp at hl)
  obtain ⟨ip, hip, hpz0, hpz1, hpz2⟩ := info_parts Try.info3_page
  obtain ⟨ib, hib, hbz0, hbz1, hbz2⟩ := info_parts Try.info3_block
  have HL := Lib.hid hl
  have HP := Lib.hid hp
  clear hl hp
  have hb0 : Bld w.heap.size (w.alloc (.cells #[] 36)) w.heap.size 0 0 [] [] :=
    ⟨World.ownsRow_lit w #[] 0 (Nat.le_refl _) (by unfold maxLen; omega) rfl, ⟨rfl, Row.nil _ _, fun _ _ _ h _ => absurd h (by simp)⟩, ⟨fun b hb => by rw [blk_some] at hb; simp; omega, fun _ _ _ h _ => absurd h (by simp), fun _ _ _ _ _ h _ _ _ => absurd h (by simp)⟩⟩
  have hB0 : Below w.heap.size w (w.alloc (.cells #[] 36)) := (Below.refl _ _).alloc (Nat.le_refl _) _
  go_enter Try.func39, Try.ntmps39
  go_wp2
  go_loopw [3, 4] (fun v i wr => ∃ (k g c : Nat) (ks : List (Option Addr × Nat)), k ≤ 4 ∧ i = .int .i64 k ∧ v = .slice (some ⟨g, 0, none⟩) k c ∧ Below w.heap.size w wr ∧ Bld w.heap.size wr g k c (f.take k) ks ∧ k ≤ c) (fun _ i _ => 4 - (intOf i).toNat)
  case atStart => exact ⟨0, _, 0, [], by omega, rfl, rfl, hB0, hb0, Nat.le_refl _⟩
  case round =>
    clear hb0 hB0
    obtain ⟨k, g, c, ks, hk, rfl, rfl, hb, hBd, hkc⟩ := hrel
    by_cases hlt : k < 4
    · obtain ⟨B, hB⟩ := get_some (l := f) (k := k) (by have := HL.out; omega)
      have hBl : B.pages.length = 4 := HP.out B (List.mem_of_getElem? hB)
      obtain ⟨⟨Ap, cp⟩, _, c0, c1, _, _, hR, hlc⟩ := hF.at_ hB
      have hbk : bk < w.heap.size := lt_of_cell c0
      replace c0 := (hb.cell (p := ⟨bk, off + k * 2, none⟩) hbk).trans c0
      replace c1 := (hb.cell (p := ⟨bk, off + k * 2 + 1, none⟩) hbk).trans c1
      have hRw := (hR.below hb (Nat.le_refl _))
      obtain ⟨pb, po, rfl⟩ := hR.addr (pgs_ne (by rintro e; simp [e] at hBl))
      have HB := Lib.hid hB
      have HBL := Lib.hid hBl
      rw [hBl] at c0
      obtain ⟨Ps, wn⟩ := B
      dsimp only at *
      have hlen : (pgs Ps).length = 4 * 5 := by rw [pgs_len, HBL.out]
      have HLEN := Lib.hid hlen
      have hown := hBd.own
      have hsz := hb.size
      have hbk' : bk < wr.heap.size := by omega
      have hk4 : (k : Int) < 4 := by omega
      have hgl := hBd.apt.top g (by rw [blk_some])
      have hgne : (Value.slice (some ⟨g, 0, none⟩) k c).ownBlock ≠ some wr.heap.size := by simp [Value.ownBlock]; omega
      clear hB hR hBl hlc hlen
      go_wp2
      go_region_held3 (fun w' => w'.cell? ⟨bk, off + k * 2, none⟩ = some (.slice (some ⟨pb, po, none⟩) 4 cp) ∧ w'.cell? ⟨bk, off + k * 2 + 1, none⟩ = some (.int .i64 wn))
        (go_keep)
        (first
          | (refine step_append_lies _ (by rfl) (.tmp 13) (.tmp 18) _ (by rfl) w.heap.size 42 ip _ 5 40 Try.underlying34 hip hpz0 hpz1 hpz2 rfl (by omega) (.slice (some ⟨wr.heap.size, 0, none⟩) 0 0) 0 [] (by rfl) ((World.ownsRow_lit (size := 5) wr #[] 0 hsz (by unfold maxLen; omega) rfl).drew) ⟨pb, po, none⟩ 4 cp (pgs Ps) (by rfl) HLEN.out ((hRw.alloc _).news) (oneCell_pgs Ps) (by omega) (by unfold maxLen; omega) (by omega) (by simp; omega) (wr.heap.size + 1) (by simp) ?_; intro g1 c1' w1 hown1 hgrow1 hat1 hlt1; have hb1 : Below wr.heap.size wr w1 := (((Below.refl _ _).alloc (Nat.le_refl _) _).drew).grown hgrow1 (by simp) (by intro q e; cases e; exact Nat.le_refl _); have y0 := (hb1.cell (p := ⟨bk, off + k * 2, none⟩) hbk').trans c0; have y1 := (hb1.cell (p := ⟨bk, off + k * 2 + 1, none⟩) hbk').trans c1; have hownO := (((hown.alloc _).drew).kept hgrow1 (.inr hgne)).alloc (.cells #[.slice (some ⟨g1, 0, none⟩) (0 + 4) c1', .int .i64 wn] 36); have hsz1 : w.heap.size ≤ w1.heap.size := Nat.le_trans hsz hb1.size)
          | (refine step_append_lies _ (by rfl) (.tmp 12) (.tmp 26) _ (by rfl) w.heap.size 36 ib _ 2 32 Try.underlying23 hib hbz0 hbz1 hbz2 rfl (by omega) (.slice (some ⟨g, 0, none⟩) k c) k (hdrs (f.take k) ks) (by rfl) hownO ⟨w1.heap.size, 0, none⟩ 1 1 [.slice (some ⟨g1, 0, none⟩) (0 + 4) c1', .int .i64 wn] (by rfl) (by rfl) (World.news_of_block (cs := #[.slice (some ⟨g1, 0, none⟩) (0 + 4) c1', .int .i64 wn]) (t := 36) (fr := (0, 0)) (heap_alloc_new w1 _)) (by simp [Value.oneCell']) (by omega) (by unfold maxLen; omega) (by omega) (by simp; omega) (w1.heap.size + 1) (by simp) ?_; intro g2 c2 w2 hown2 hgrow2 hat2 hlt2; have hb2 : Below w.heap.size wr w2 := ((hb1.mono hsz).alloc hsz1 _).grown hgrow2 (by simp; omega) (by intro q e; cases e; exact hgl.1); have y2 := (hb2.cell (p := ⟨bk, off + k * 2, none⟩) hbk).trans c0; have y3 := (hb2.cell (p := ⟨bk, off + k * 2 + 1, none⟩) hbk).trans c1))
      have hstep := hBd.step (b := ⟨Ps, wn⟩) HBL.out hsz (Row.of_own hown1) (ownsRow_cap hown1) (by rcases hat1 with e | e <;> (try simp [Value.ownBlock] at e) <;> omega) hlt1 hb1 hown2 hgrow2 hat2 hlt2
      rw [show f.take k ++ [(⟨Ps, wn⟩ : Bk)] = f.take (k + 1) from by rw [List.take_add_one, HB.out]; rfl] at hstep
      have hcap := ownsRow_cap hown2
      have hB2 := hb.trans hb2
      clear hown2 hown1 hgrow1 hgrow2 hat1 hat2 hownO hown hBd
      go_wp2
      go_roundw
      case rel => exact ⟨k + 1, g2, c2, _, by omega, by go_num, rfl, hB2, hstep, hcap⟩
      case measure => simp [intOf]; omega
    · obtain rfl : k = 4 := by omega
      go_wp2
      go_ret
      have := HL.out
      rw [List.take_of_length_le (by omega)] at hBd
      exact ⟨g, c, rfl, hkc, ⟨ks, hBd.bks, hBd.apt⟩, hb⟩
end Go.Proofs.Ytlchlhjjoddocaa
