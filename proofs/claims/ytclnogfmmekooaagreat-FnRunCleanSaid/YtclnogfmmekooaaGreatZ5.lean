/- What the laws' walks share: words, plain laws, and the walks of functions, part 5. -/
import Derived.Deep.AppendLies
import Derived.Deep.RegionHeld3
import Derived.Deep.Onto
import Derived.OwnWalk
import Derived.BigQuiet
import Derived.Deep.RegionWith
import Derived.Test.YtclnogfmmekooaaGreatZ4
set_option linter.unusedVariables false
set_option linter.unusedSimpArgs false
set_option maxHeartbeats 16000000
set_option maxRecDepth 100000
namespace Go.Proofs.YtclnogfmmekooaaGreat
section
open Go.RowKit Go.Maps
theorem Tryz.info3_block : (Tryz.prog.info? 99).map (fun i => (i.zero, i.size, i.bytes)) = some (some (.agg #[.slice none 0 0, .int .i64 0]), 2, 32) := by kernel_rfl
structure Bld (B : Nat) (w : World) (g k c : Nat) (f : List Bk) (ks : List (Option Addr × Nat)) : Prop where
 own : w.ownsRow B 99 2 (.slice (some ⟨g, 0, none⟩) k c) k (hdrs f ks)
 bks : Bks w (some ⟨g, 0, none⟩) f ks
 apt : Apt B w.heap.size (some ⟨g, 0, none⟩) ks
theorem Apt.snoc {lo hi hi' g g' : Nat} {hs : List (Option Addr × Nat)} {x : Option Addr × Nat} (h : Apt lo hi (some ⟨g, 0, none⟩) hs) (hg : g' = g ∨ hi ≤ g') (hg' : g' < hi') (hx : ∀ b, blk x.1 b -> hi ≤ b ∧ b < hi' ∧ b ≠ g') (hlh : lo ≤ hi) (hh : hi ≤ hi') : Apt lo hi' (some ⟨g', 0, none⟩) (hs ++ [x]) := by
 have hgl := h.top g (by rw [zg])
 have key : ∀ (j : Nat) (y : Option Addr × Nat), (hs ++ [x])[j]? = some y -> (j = hs.length ∧ y = x) ∨ (j < hs.length ∧ hs[j]? = some y) := fun j y hy => by
  by_cases hj : j < hs.length
  . rw [List.getElem?_append_left hj] at hy; exact .inr ⟨hj, hy⟩
  . rw [List.getElem?_append_right (by omega)] at hy
    have hl := (List.getElem?_eq_some_iff.1 hy).1
    simp at hl
    have e : j = hs.length := by omega
    subst e
    simp at hy
    exact .inl ⟨rfl, hy.symm⟩
 refine ⟨fun b hb => by rw [zg] at hb; omega, fun j y b hy hb => ?_, fun j m y z b hy hz hb hc => ?_⟩
 . rcases key j y hy with ⟨_, ey⟩ | ⟨_, hy'⟩
   . have := hx b (ey ▸ hb); exact ⟨by omega, by omega, by rw [zg]; omega⟩
   . have := h.in_ j y b hy' hb
     rw [zg] at this
     exact ⟨by omega, by omega, by rw [zg]; omega⟩
 . rcases key j y hy with ⟨ej, ey⟩ | ⟨_, hy'⟩ <;> rcases key m z hz with ⟨em, ez⟩ | ⟨_, hz'⟩
   . omega
   . have h1 := hx b (ey ▸ hb); have h2 := h.in_ m z b hz' hc; omega
   . have h1 := hx b (ez ▸ hc); have h2 := h.in_ j y b hy' hb; omega
   . exact h.two j m y z b hy' hz' hb hc
theorem Bks.snoc {w w' : World} {g g' : Nat} {f : List Bk} {hs : List (Option Addr × Nat)} {b : Bk} {x : Option Addr × Nat} (h : Bks w (some ⟨g, 0, none⟩) f hs) (hk : ∀ (i : Nat) (y : Option Addr × Nat), hs[i]? = some y -> ∀ c, blk y.1 c -> c < w.heap.size -> w'.heap[c]? = w.heap[c]?)
 (hr : Row w' (some ⟨g', 0, none⟩) (hdrs f hs ++ [.slice x.1 b.pages.length x.2, .int .i64 b.worn])) (hp : Row w' x.1 (pgs b.pages)) (hc : b.pages.length ≤ x.2) : Bks w' (some ⟨g', 0, none⟩) (f ++ [b]) (hs ++ [x]) := by
 refine ⟨by simp [h.len], by rw [Kx f [b] hs [x] h.len]; exact hr, fun i c y hc' hy => ?_⟩
 have hl := h.len
 by_cases hi : i < f.length
 . rw [List.getElem?_append_left hi] at hc'
   rw [List.getElem?_append_left (by omega)] at hy
   obtain ⟨h1, h2⟩ := h.pg i c y hc' hy
   exact ⟨h1.keep (hk i y hy), h2⟩
 . rw [List.getElem?_append_right (by omega)] at hc'
   rw [List.getElem?_append_right (by omega)] at hy
   have hl' := (List.getElem?_eq_some_iff.1 hc').1
   simp at hl'
   have e : i = f.length := by omega
   subst e
   simp at hc'
   rw [hl] at hy
   simp at hy
   subst hc'; subst hy
   exact ⟨hp, hc⟩
theorem zgp {w : World} {base : Nat} {e : TypeId} {size n c g : Nat} {xs : List Value} (h : w.ownsRow base e size (.slice (some ⟨g, 0, none⟩) n c) n xs) : n ≤ c := by
 obtain ⟨_, ⟨hv, _⟩ | ⟨g', cap, cur, hv, _, _, hc, _⟩⟩ := h
 . cases hv
 . cases hv; exact hc
theorem Bld.step {B : Nat} {wr w1 w2 : World} {g k c g1 c1 g2 c2 n : Nat} {f : List Bk} {ks : List (Option Addr × Nat)} {b : Bk} {o : Obj} (h : Bld B wr g k c f ks) (hn : b.pages.length = n) (hB : B ≤ wr.heap.size)
 (h1 : Row w1 (some ⟨g1, 0, none⟩) (pgs b.pages)) (hc1 : n ≤ c1) (hg1 : wr.heap.size ≤ g1) (hl1 : g1 < w1.heap.size) (hb1 : Below wr.heap.size wr w1)
 (hown : w2.ownsRow B 99 2 (.slice (some ⟨g2, 0, none⟩) (k + 1) c2) (k + 1) (hdrs f ks ++ [.slice (some ⟨g1, 0, none⟩) n c1, .int .i64 b.worn])) (hgr : (w1.alloc o).grownBy w2 (some g)) (hg2 : some g = some g2 ∨ g2 = w1.heap.size + 1) (hl2 : g2 < w2.heap.size) :
 Bld B w2 g2 (k + 1) c2 (f ++ [b]) (ks ++ [(some ⟨g1, 0, none⟩, c1)]) := by
 have hgl := h.apt.top g (by rw [zg])
 have hs1 := hb1.size
 have hs2 := hgr.size
 rw [World.size_alloc] at hs2
 have hkeep : ∀ i, i < w1.heap.size -> i ≠ g -> w2.heap[i]? = w1.heap[i]? := fun i hi hne => (hgr.block i (by rw [World.size_alloc]; omega) (by intro e; cases e; exact hne rfl)).trans (Below.heap_alloc w1 o i hi)
 refine ⟨by rw [Kx _ _ _ _ h.bks.len]; simp only [hdrs, hn]; exact hown, ?_, ?_⟩
 . refine h.bks.snoc (fun i y hy d hd hl => ?_) (by rw [hn]; exact Row.of_own hown) (h1.keep fun d hd _ => hkeep d ?_ ?_) (by rw [hn]; exact hc1)
   . have h3 := h.apt.in_ i y d hy hd
     rw [zg] at h3
     rw [hkeep d (by omega) (by omega)]
     exact hb1.block d hl
   . rw [zg] at hd; omega
   . rw [zg] at hd; omega
 . refine h.apt.snoc (hi' := w2.heap.size) ?_ hl2 (fun d hd => ?_) hB (by omega)
   . rcases hg2 with e | e
     . cases e; exact .inl rfl
     . exact .inr (by omega)
   . rw [zg] at hd
     refine ⟨by omega, by omega, ?_⟩
     rcases hg2 with e | e
     . cases e; omega
     . omega
end
section
open Go.RowKit Go.Maps
theorem zjk (w : World) : (Instr.makeSlice 97 (.int .i64 4) (.int .i64 4)).run Tryz.prog w = .ok (.slice (some ⟨w.heap.size, 0, none⟩) 4 4) (w.alloc (.cells #[.int .i64 0, .int .i64 0, .int .i64 0, .int .i64 0, .int .i64 0, .int .i64 0, .int .i64 0, .int .i64 0, .int .i64 0, .int .i64 0, .int .i64 0, .int .i64 0, .int .i64 0, .int .i64 0, .int .i64 0, .int .i64 0, .int .i64 0, .int .i64 0, .int .i64 0, .int .i64 0] 76)) := by kernel_rfl
theorem zct (w : World) : Calls Tryz.prog 46 #[] w fun e w' =>
 ∃ g c', e = .returned (.slice (some ⟨g, 0, none⟩) 4 c') ∧ 4 ≤ c' ∧ OFl w' w.heap.size w'.heap.size (some ⟨g, 0, none⟩) zx ∧ Below w.heap.size w w' := by
 obtain ⟨ib, hib, hbz0, hbz1, hbz2⟩ := info_parts Tryz.info3_block
 have hmk := zjk
 have hb0 : Bld w.heap.size (w.alloc (.cells #[] 99)) w.heap.size 0 0 (zx.take 0) [] :=
  ⟨World.ownsRow_lit w #[] 0 nl (by unfold maxLen; omega) rfl, ⟨rfl, Row.nil _ _, fun _ _ _ h _ => absurd h (by simp)⟩, ⟨fun b hb => by rw [zg] at hb; simp; omega, fun _ _ _ h _ => absurd h (by simp), fun _ _ _ _ _ h _ _ _ => absurd h (by simp)⟩⟩
 have hB0 : Below w.heap.size w (w.alloc (.cells #[] 99)) := (Below.refl _ _).alloc nl _
 go_enter Tryz.func46, Tryz.ntmps46
 go_wp2
 go_loopw [1, 2] (fun v i wr => ∃ (k g c : Nat) (ks : List (Option Addr × Nat)), k ≤ 4 ∧ i = .int .i64 k ∧ v = .slice (some ⟨g, 0, none⟩) k c ∧ Below w.heap.size w wr ∧ Bld w.heap.size wr g k c (zx.take k) ks ∧ k ≤ c) (fun _ i _ => 4 - (intOf i).toNat)
 case atStart => exact ⟨0, _, 0, [], by omega, rfl, rfl, hB0, hb0, Nat.le_refl _⟩
 case round =>
  clear hb0 hB0
  obtain ⟨k, g, c, ks, hk, rfl, rfl, hb, hBd, hkc⟩ := hrel
  by_cases hlt : k < 4
  . have hown := hBd.own
    have hsz := hb.size
    have hgl := hBd.apt.top g (by rw [zg])
    have hR1 : Row (wr.alloc (.cells #[.int .i64 0, .int .i64 0, .int .i64 0, .int .i64 0, .int .i64 0, .int .i64 0, .int .i64 0, .int .i64 0, .int .i64 0, .int .i64 0, .int .i64 0, .int .i64 0, .int .i64 0, .int .i64 0, .int .i64 0, .int .i64 0, .int .i64 0, .int .i64 0, .int .i64 0, .int .i64 0] 76)) (some ⟨wr.heap.size, 0, none⟩) (pgs (List.replicate 4 pg0)) := Row.new wr #[.int .i64 0, .int .i64 0, .int .i64 0, .int .i64 0, .int .i64 0, .int .i64 0, .int .i64 0, .int .i64 0, .int .i64 0, .int .i64 0, .int .i64 0, .int .i64 0, .int .i64 0, .int .i64 0, .int .i64 0, .int .i64 0, .int .i64 0, .int .i64 0, .int .i64 0, .int .i64 0] _
    obtain ⟨W, hW⟩ : ∃ W, wr.alloc (.cells #[.int .i64 0, .int .i64 0, .int .i64 0, .int .i64 0, .int .i64 0, .int .i64 0, .int .i64 0, .int .i64 0, .int .i64 0, .int .i64 0, .int .i64 0, .int .i64 0, .int .i64 0, .int .i64 0, .int .i64 0, .int .i64 0, .int .i64 0, .int .i64 0, .int .i64 0, .int .i64 0] 76) = W := ⟨_, rfl⟩
    have hownW := hown.alloc (.cells #[.int .i64 0, .int .i64 0, .int .i64 0, .int .i64 0, .int .i64 0, .int .i64 0, .int .i64 0, .int .i64 0, .int .i64 0, .int .i64 0, .int .i64 0, .int .i64 0, .int .i64 0, .int .i64 0, .int .i64 0, .int .i64 0, .int .i64 0, .int .i64 0, .int .i64 0, .int .i64 0] 76)
    have hbW : Below wr.heap.size wr W := hW ▸ (Below.refl _ _).alloc nl _
    have hsW : W.heap.size = wr.heap.size + 1 := by rw [← hW]; simp
    have hmkW := hmk wr
    rw [hW] at hR1 hownW hmkW
    have HSW := Lib.hid hsW
    have HK := Lib.hid hmk
    clear hmk hW hsW
    go_wp2_with (at_builtin; refine wpList_append_lies _ rfl (.tmp 8) (.tmp 11) _ rfl w.heap.size 99 ib _ 2 32 Tryz.underlying25 hib hbz0 hbz1 hbz2 rfl (by omega) (.slice (some ⟨g, 0, none⟩) k c) k (hdrs (zx.take k) ks) rfl (hownW.alloc (.cells #[.slice (some ⟨wr.heap.size, 0, none⟩) 4 4, .int .i64 0] 99)) ⟨W.heap.size, 0, none⟩ 1 1 [.slice (some ⟨wr.heap.size, 0, none⟩) 4 4, .int .i64 0] rfl rfl (World.news_of_block (cs := #[.slice (some ⟨wr.heap.size, 0, none⟩) 4 4, .int .i64 0]) (t := 99) (fr := (0, 0)) (heap_alloc_new W _)) (by simp [Value.oneCell']) (by omega) (by unfold maxLen; omega) (by omega) (by have := HSW.out; simp; omega) (W.heap.size + 1) (by simp) ?_; intro g2 c2 w2 hown2 hgrow2 hat2 hlt2)
    have hstep := hBd.step (b := Ze) (c1 := 4) (n := 4) (by rfl) hsz hR1 nl nl (by have := HSW.out; omega) hbW hown2 hgrow2 hat2 hlt2
    rw [show zx.take k ++ [Ze] = zx.take (k + 1) from by rw [List.take_add_one, show zx[k]? = some Ze by rw [zx, List.getElem?_replicate, if_pos hlt]]; rfl] at hstep
    have hcap := zgp hown2
    have hB2 := hb.trans (((hbW.mono hsz).alloc (by have := HSW.out; omega) _).grown hgrow2 (by have := HSW.out; simp; omega) (by intro q e; cases e; exact hgl.1))
    go_roundw
    case rel => exact ⟨k + 1, g2, c2, _, by omega, by go_num, rfl, hB2, hstep, hcap⟩
    case measure => simp [intOf]; omega
  . obtain rfl : k = 4 := by omega
    go_wp2
    go_ret
    exact ⟨g, c, rfl, hkc, ⟨ks, hBd.bks, hBd.apt⟩, hb⟩

theorem ziw {w : World} {g o i : Nat} {f : List Bk} {hs : List (Option Addr × Nat)} {b : Bk} {x : Option Addr × Nat} (h : Bks w (some ⟨g, o, none⟩) f hs) (hi : f[i]? = some b) (hx : hs[i]? = some x) (n : Int) :
 xr w (w.setCell ⟨g, o + i * 2 + 1, none⟩ (.int .i64 n)) g (o + i * 2) [.slice x.1 b.pages.length x.2, .int .i64 n] := by
 obtain ⟨y, hy, c0, c1, _⟩ := h.at_ hi
 rw [hx] at hy; cases hy
 exact (z8 c1 (.int .i64 n)).less c0
def j9 (f : List Bk) (i : Nat) (torn : Bool) : List Bk × Bool := if 200 ≤ (f.getD i zbk).worn then (f, false) else (wipe f i torn, true)
theorem zea (f : List Bk) (i lo hi g o c : Nat) (torn : Bool) (w : World) (hl : f.length = 4) (hp : ∀ b ∈ f, b.pages.length = 4 ∧ 0 ≤ b.worn ∧ b.worn ≤ 200) (hi4 : i < 4) (hs : List (Option Addr × Nat)) (hBk : Bks w (some ⟨g, o, none⟩) f hs) (hApt : Apt lo hi (some ⟨g, o, none⟩) hs) :
 Calls Tryz.prog 125 #[.slice (some ⟨g, o, none⟩) 4 c, .int .i64 i, .bool torn] w fun e w' =>
  e = .returned (.tuple #[.slice (some ⟨g, o, none⟩) 4 c, .bool (j9 f i torn).2]) ∧ Bks w' (some ⟨g, o, none⟩) (j9 f i torn).1 hs ∧ Agr (fblk (some ⟨g, o, none⟩) hs) w w' := by
 obtain ⟨B, hB⟩ := zd (l := f) (k := i) (by omega)
 have hBm := hp B (List.mem_of_getElem? hB)
 have hBget : f.getD i zbk = B := by rw [List.getD_eq_getElem?_getD, hB]; rfl
 obtain ⟨x, hx, z0, z1, z2, z3, hR, _⟩ := hBk.at_ hB
 obtain ⟨hw1, hw2, hw3⟩ := hBm
 have hg := hApt.top g (by rw [zg])
 have hi4' : (i : Int) < 4 := by omega
 have hi0 : (0 : Int) ≤ i := by omega
 by_cases h200 : 200 ≤ B.worn
 . have hfin : Hid (j9 f i torn = (f, false)) := by unfold Hid j9; rw [hBget, if_pos h200]
   clear hl hp hBget hw1
   go_enter Tryz.func125, Tryz.ntmps125
   go_wp2
   go_ret2
   rw [hfin.out]
   exact ⟨rfl, hBk, Agr.refl _ _⟩
 . have hfin : Hid (j9 f i torn = (wipe f i torn, true)) := by unfold Hid j9; rw [hBget, if_neg h200]
   have hlt : B.worn < 200 := by omega
   obtain ⟨⟨pb, po, hpa⟩, hpb⟩ : (∃ pb po, x.1 = some ⟨pb, po, none⟩) ∧ True := ⟨hR.addr (kq (by intro e; rw [e] at hw1; simp at hw1)), trivial⟩
   obtain ⟨A, cp⟩ := x
   dsimp only at hpa
   subst hpa
   dsimp only at *
   have hW := ziw hBk hB hx (B.worn + 1)
   have hBk1 := hBk.setHdr hApt hB hx hW
   have hpin := hApt.in_ i _ pb hx (by rw [zg])
   rw [zg] at hpin
   have hW1 := Lib.hid hW.agr
   have HX := Lib.hid hx
   have HL := Lib.hid hl
   have HB := Lib.hid hB
   have HG := Lib.hid hBget
   have HW1 := Lib.hid hw1
   rw [hw1] at z0
   have hz0' := hW.new_ 0 _ rfl
   rw [Nat.add_zero, hw1] at hz0'
   clear hl hp hB hBget hx hw1 hpb hW
   go_enter Tryz.func125, Tryz.ntmps125
   cases torn
   . go_wp2
     go_loopw [9] (fun q wr => ∃ (k : Nat), k ≤ 4 ∧ q = .int .i64 k ∧ Bks wr (some ⟨g, o, none⟩) (f.set i ⟨List.replicate k ⟨0, rc0⟩ ++ B.pages.drop k, B.worn + 1⟩) hs ∧ Agr (fblk (some ⟨g, o, none⟩) hs) w wr ∧ wr.cell? ⟨g, o + i * 2, none⟩ = some (.slice (some ⟨pb, po, none⟩) 4 cp)) (fun q _ => 4 - (intOf q).toNat)
     case atStart => exact ⟨0, by omega, rfl, hBk1, (Agr.refl _ _).trans hW1.out (fun k _ e => .inl (by rw [e, zg])), hz0'⟩
     case round =>
      clear hBk1 hz0'
      obtain ⟨k, hk, rfl, hBk2, hA, hz⟩ := hrel
      by_cases hltk : k < 4
      . have hk4' : (k : Int) < 4 := by omega
        have hget : (f.set i ⟨List.replicate k ⟨0, rc0⟩ ++ B.pages.drop k, B.worn + 1⟩)[i]? = some ⟨List.replicate k ⟨0, rc0⟩ ++ B.pages.drop k, B.worn + 1⟩ := by rw [List.getElem?_set_self (by have := HL.out; omega)]
        obtain ⟨hr2, _⟩ := hBk2.pg i _ _ hget HX.out
        obtain ⟨q, hq⟩ := zd (l := List.replicate k (⟨0, rc0⟩ : Pg) ++ B.pages.drop k) (k := k) (by have := HW1.out; simp; omega)
        obtain ⟨c0, c1, c2, c3, c4⟩ := hr2.pg hq
        obtain ⟨f0, f1, f2, f3, f4⟩ := hr2.pgf hq
        have hWp := yi hr2 hq ⟨0, rc0⟩
        have hBk3 := hBk2.setPage hApt hget HX.out (by have := HW1.out; simp; omega) hWp
        rw [List.set_set] at hBk3
        dsimp only at hBk3
        rw [zao _ _ _ (by have := HW1.out; omega)] at hBk3
        have hA3 := hA.trans hWp.agr (fun j _ e => .inr ⟨i, _, HX.out, by rw [e, zg]⟩)
        have hz3 := (hWp.block g (by omega))
        have HQ := Lib.hid hq
        have HGT := Lib.hid hget
        have hz4 := (World.cell?_of_block (a := ⟨g, o + i * 2, none⟩) hz3).trans hz
        simp only [rc0] at hBk3 hA3 hz4
        clear hq hget hz3 hWp
        go_wp2
        go_roundw
        case rel => exact ⟨k + 1, by omega, by go_num, hBk3, hA3, hz4⟩
        case measure => simp [intOf]; omega
      . obtain rfl : k = 4 := by omega
        go_wp2
        go_ret2
        rw [hfin.out]
        rw [show B.pages.drop 4 = [] from List.drop_of_length_le (by have := HW1.out; omega), List.append_nil] at hBk2
        exact ⟨rfl, by unfold wipe; rw [HG.out]; exact hBk2, hA⟩
   . go_wp2
     go_loopw [9] (fun q wr => ∃ (k : Nat), k ≤ 4 ∧ q = .int .i64 k ∧ Bks wr (some ⟨g, o, none⟩) (f.set i ⟨List.replicate k ⟨2, rc0⟩ ++ B.pages.drop k, B.worn + 1⟩) hs ∧ Agr (fblk (some ⟨g, o, none⟩) hs) w wr ∧ wr.cell? ⟨g, o + i * 2, none⟩ = some (.slice (some ⟨pb, po, none⟩) 4 cp)) (fun q _ => 4 - (intOf q).toNat)
     case atStart => exact ⟨0, by omega, rfl, hBk1, (Agr.refl _ _).trans hW1.out (fun k _ e => .inl (by rw [e, zg])), hz0'⟩
     case round =>
      clear hBk1 hz0'
      obtain ⟨k, hk, rfl, hBk2, hA, hz⟩ := hrel
      by_cases hltk : k < 4
      . have hk4' : (k : Int) < 4 := by omega
        have hget : (f.set i ⟨List.replicate k ⟨2, rc0⟩ ++ B.pages.drop k, B.worn + 1⟩)[i]? = some ⟨List.replicate k ⟨2, rc0⟩ ++ B.pages.drop k, B.worn + 1⟩ := by rw [List.getElem?_set_self (by have := HL.out; omega)]
        obtain ⟨hr2, _⟩ := hBk2.pg i _ _ hget HX.out
        obtain ⟨q, hq⟩ := zd (l := List.replicate k (⟨2, rc0⟩ : Pg) ++ B.pages.drop k) (k := k) (by have := HW1.out; simp; omega)
        obtain ⟨c0, c1, c2, c3, c4⟩ := hr2.pg hq
        obtain ⟨f0, f1, f2, f3, f4⟩ := hr2.pgf hq
        have hWp := yi hr2 hq ⟨2, rc0⟩
        have hBk3 := hBk2.setPage hApt hget HX.out (by have := HW1.out; simp; omega) hWp
        rw [List.set_set] at hBk3
        dsimp only at hBk3
        rw [zao _ _ _ (by have := HW1.out; omega)] at hBk3
        have hA3 := hA.trans hWp.agr (fun j _ e => .inr ⟨i, _, HX.out, by rw [e, zg]⟩)
        have hz3 := (hWp.block g (by omega))
        have HQ := Lib.hid hq
        have HGT := Lib.hid hget
        have hz4 := (World.cell?_of_block (a := ⟨g, o + i * 2, none⟩) hz3).trans hz
        simp only [rc0] at hBk3 hA3 hz4
        clear hq hget hz3 hWp
        go_wp2
        go_roundw
        case rel => exact ⟨k + 1, by omega, by go_num, hBk3, hA3, hz4⟩
        case measure => simp [intOf]; omega
      . obtain rfl : k = 4 := by omega
        go_wp2
        go_ret2
        rw [hfin.out]
        rw [show B.pages.drop 4 = [] from List.drop_of_length_le (by have := HW1.out; omega), List.append_nil] at hBk2
        exact ⟨rfl, by unfold wipe; rw [HG.out]; exact hBk2, hA⟩
theorem zmy {f : List Bk} {i : Nat} {torn : Bool} (hok : zc f = true) (hi : i < 4) : k8 f i torn = j9 f i torn := by
 have hl := zf hok
 obtain ⟨B, hB⟩ := zd (l := f) (k := i) (by omega)
 have hs := zm hok B (List.mem_of_getElem? hB)
 have hBget : f.getD i zbk = B := by rw [List.getD_eq_getElem?_getD, hB]; rfl
 unfold k8 j9
 rw [if_neg (by rw [hok]; unfold jy; simp; omega), Int.toNat_natCast, hBget]
 by_cases h : B.worn = 200
 . rw [if_pos h, if_pos (by omega)]
 . rw [if_neg h, if_neg (by omega)]
theorem zka (f : List Bk) (i : Nat) (torn : Bool) : (j9 f i torn).1.length = f.length := by
 unfold j9 wipe
 split <;> simp
end
section
def xv (f : List Bk) (i : Nat) (r : Rc) (torn : Bool) : List Bk × Bool :=
 if clean (f.getD i zbk) = 0 ∨ qd f r.seq = true then (f, false)
 else (f.set i { f.getD i zbk with pages := (f.getD i zbk).pages.set (4 - clean (f.getD i zbk)) (if torn then ⟨2, rc0⟩ else ⟨1, r⟩) }, true)
def xq (f : List Bk) (a : Int) : Bool := decide (0 < (last f a).seq) && decide ((last f a).kind = 1)
def xh (s : St) (a : Int) : Int := if 0 < (last s.flash a).seq then (last s.flash a).val else s.disk.getD (a - 1).toNat 0
def told (f : List Bk) (p : Pg) : Bool := live f p && decide (p.rc.kind = 1)
def Zk (p : Pg) : Sp := ⟨1, p.rc.addr, p.rc.val, 0, rc0⟩
def tells (f : List Bk) (ps : List Pg) : List Sp := (ps.filter (told f)).map Zk
def room (f : List Bk) : List Sp × Int × Bool :=
 if (kz f).2 then ([], (kz f).1, true)
 else (tells f (f.getD (old f) zbk).pages ++ [⟨2, 0, 0, old f, rc0⟩], old f, decide ((f.getD (old f) zbk).worn < 200))
def wr (f : List Bk) (kind addr val : Int) : List Sp :=
 if (room f).2.2 = false ∨ xk ⟨kind, next f, addr, val⟩ = false then [] else (room f).1 ++ [⟨3, 0, 0, (room f).2.1, ⟨kind, next f, addr, val⟩⟩]
def kg (s : St) (a : Int) : List Sp :=
 if kj a = false ∨ xq s.flash a = false then [] else
 if wr s.flash 2 a (xh s a) = [] then [] else ⟨1, a, xh s a, 0, rc0⟩ :: wr s.flash 2 a (xh s a)
def fill (s : St) (a : Int) : List Sp :=
 if kj a = false ∨ 0 < (last s.flash a).seq then [] else wr s.flash 2 a (s.disk.getD (a - 1).toNat 0)
def zz (s : St) (e : Ev) : List Sp :=
 if e.kind = 1 then wr s.flash 1 e.a e.b else if e.kind = 2 then kg s e.a else if e.kind = 3 then fill s e.a else []
def zr (s : St) (x : Sp) (torn : Bool) : St :=
 if x.kind = 1 then (if torn then s else { s with disk := s.disk.set (x.addr - 1).toNat x.val })
 else if x.kind = 2 then { s with flash := (j9 s.flash x.block.toNat torn).1 }
 else if x.kind = 3 then { s with flash := (xv s.flash x.block.toNat x.rc torn).1 } else s
def zt (s : St) (xs : List Sp) : St := xs.foldl (fun s x => zr s x false) s
def doTo (s : St) (xs : List Sp) (cut : Int) (torn : Bool) : St :=
 if torn = true ∧ 0 ≤ cut ∧ cut < xs.length then zr (zt s (xs.take cut.toNat)) (xs.getD cut.toNat ⟨0, 0, 0, 0, rc0⟩) true else zt s (xs.take cut.toNat)
def kt (s : St) (a : Int) : St := doTo s (kg s a) (kg s a).length false
def j4 (s : St) : St := [1, 2, 3, 4, 5, 6].foldl kt s
def doEv (s : St) (e : Ev) : St := if e.kind = 4 then j4 s else if e.c < 0 then s else doTo s (zz s e) e.c e.torn
def zim (b : Bk) : Prop := b.pages.length = 4 ∧ 0 ≤ b.worn ∧ b.worn ≤ 200 ∧ ∀ p ∈ b.pages, zp p = true
def Zv (f : List Bk) : Prop := f.length = 4 ∧ ∀ b ∈ f, zim b
def xy (s : St) : Prop := Zv s.flash ∧ s.disk.length = 6 ∧ ∀ v ∈ s.disk, 0 ≤ v ∧ v ≤ 9
def Xn (x : Sp) : Prop := (x.kind = 1 -> 1 ≤ x.addr ∧ x.addr ≤ 6 ∧ 0 ≤ x.val ∧ x.val ≤ 9) ∧ (x.kind = 2 ∨ x.kind = 3 -> 0 ≤ x.block ∧ x.block < 4) ∧ (x.kind = 3 -> xk x.rc = true)
end
section
open Go.RowKit Go.Maps
theorem zik (b : Bk) : clean b ≤ b.pages.length := List.countP_le_length
theorem zcs (f : List Bk) (a : Int) (A D : Option Addr) (c m d : Nat) (w : World) (hl : f.length < 1000000000000) (hp : ∀ b ∈ f, b.pages.length < 1000000000000) (hF : Fl w A f) :
 Calls Tryz.prog 123 #[.agg #[.slice A f.length c, .slice D m d], .int .i64 a] w fun e w' => e = .returned (.bool (xq f a)) ∧ Below w.heap.size w w' := by
 have HP := Lib.hid hp
 clear hp
 go_enter Tryz.func123, Tryz.ntmps123
 go_wp2_with fail
 refine (Z0 f a A c _ hl HP.out (hF.alloc _)).mono ?_
 rintro e w1 ⟨rfl, hb⟩
 have hB : Below w.heap.size w w1 := Below.trans bw (hb.mono (by simp))
 have hfin : Hid (xq f a = (decide (0 < (last f a).seq) && decide ((last f a).kind = 1))) := rfl
 clear hb
 generalize last f a = x at *
 by_cases h1 : 0 < x.seq
 . by_cases h2 : x.kind = 1
   . have h3 : Hid (xq f a = true) := by rw [Hid, hfin.out]; simp [h1, h2]
     go_wp2
     all_goals go_ret
     all_goals exact ⟨zk (by first | exact h3.out.symm | (rw [h3.out]; simp [*])), bw⟩
   . have h3 : Hid (xq f a = false) := by rw [Hid, hfin.out]; simp [h1, h2]
     go_wp2
     all_goals go_ret
     all_goals exact ⟨zk (by first | exact h3.out.symm | (rw [h3.out]; simp [*])), bw⟩
 . have h3 : Hid (xq f a = false) := by rw [Hid, hfin.out]; simp [h1]
   go_wp2
   all_goals go_ret
   all_goals exact ⟨zk (by first | exact h3.out.symm | (rw [h3.out]; simp [*])), bw⟩
theorem zed (s : St) (a : Int) (A D : Option Addr) (c d : Nat) (w : World) (hl : s.flash.length < 1000000000000) (hp : ∀ b ∈ s.flash, b.pages.length < 1000000000000) (hd : s.disk.length = 6) (ha : 1 ≤ a) (ha2 : a ≤ 6) (hF : Fl w A s.flash) (hD : Row w D (ints s.disk)) :
 Calls Tryz.prog 124 #[.agg #[.slice A s.flash.length c, .slice D 6 d], .int .i64 a] w fun e w' => e = .returned (.int .i64 (xh s a)) ∧ Below w.heap.size w w' := by
 have HP := Lib.hid hp
 obtain ⟨i, rfl⟩ : ∃ i : Nat, a = i + 1 := ⟨(a - 1).toNat, by omega⟩
 have hi : i < 6 := by omega
 obtain ⟨v, hv⟩ := zd (l := s.disk) (k := i) (by omega)
 have hgd : s.disk.getD i 0 = v := by rw [List.getD_eq_getElem?_getD, hv]; rfl
 have hne : s.disk ≠ [] := by rintro h; rw [h] at hd; simp at hd
 have hfin : Hid (xh s (i + 1) = if 0 < (last s.flash (i + 1)).seq then (last s.flash (i + 1)).val else v) := by unfold Hid xh; rw [show ((i : Int) + 1 - 1).toNat = i by omega, hgd]
 have HV := Lib.hid hv
 have hn1 : ints s.disk ≠ [] := by
  intro e; apply hne
  have := congrArg List.length e
  rw [yu] at this
  exact List.length_eq_zero_iff.1 this
 obtain ⟨db, dO, rfl⟩ := hD.addr hn1
 have hi6 : (i : Int) < 6 := by omega
 clear hp hv hgd hne hn1 hd
 go_enter Tryz.func124, Tryz.ntmps124
 go_wp2_with fail
 refine (Z0 s.flash (i + 1) A c _ hl HP.out (hF.alloc _)).mono ?_
 rintro e w1 ⟨rfl, hb⟩
 have hB : Below w.heap.size w w1 := Below.trans bw (hb.mono (by simp))
 obtain ⟨hc, hf⟩ := jr hb
 have hz : w.heap.size < w1.heap.size := by have := hb.size; simp at this; omega
 have hcv := ((hD.alloc (.cells #[.slice A s.flash.length c, .slice (some ⟨db, dO, none⟩) 6 d] 28)).below hb nl).int_ HV.out
 obtain ⟨hcv, _⟩ := hcv
 have hdb := ze hcv
 clear hb
 generalize last s.flash (i + 1) = x at *
 by_cases h1 : 0 < x.seq
 . have h3 : Hid (xh s (i + 1) = x.val) := by rw [Hid, hfin.out]; simp [h1]
   go_wp2
   all_goals go_ret
   all_goals exact ⟨qp h3.out.symm, bw⟩
 . have h3 : Hid (xh s (i + 1) = v) := by rw [Hid, hfin.out]; simp [h1]
   have e1 : IntKind.i64.wrap ((i : Int) + 1 - 1) = i := by rw [show (i : Int) + 1 - 1 = i by omega]; exact IntWalk.i64_in _ (by omega)
   go_wp2
   all_goals go_ret
   all_goals exact ⟨qp h3.out.symm, bw⟩
theorem zcp (f : List Bk) (i lo hi g o c : Nat) (r : Rc) (torn : Bool) (w : World) (hl : f.length = 4) (hp : ∀ b ∈ f, b.pages.length = 4) (hi4 : i < 4) (hs : List (Option Addr × Nat)) (hBk : Bks w (some ⟨g, o, none⟩) f hs) (hApt : Apt lo hi (some ⟨g, o, none⟩) hs) :
 Calls Tryz.prog 126 #[.slice (some ⟨g, o, none⟩) 4 c, .int .i64 i, .agg #[.int .i64 r.kind, .int .i64 r.seq, .int .i64 r.addr, .int .i64 r.val], .bool torn] w fun e w' =>
  e = .returned (.tuple #[.slice (some ⟨g, o, none⟩) 4 c, .bool (xv f i r torn).2]) ∧ Bks w' (some ⟨g, o, none⟩) (xv f i r torn).1 hs ∧ Agr (fblk (some ⟨g, o, none⟩) hs) w w' := by
 obtain ⟨B, hB⟩ := zd (l := f) (k := i) (by omega)
 have hBm := hp B (List.mem_of_getElem? hB)
 have hBget : f.getD i zbk = B := by rw [List.getD_eq_getElem?_getD, hB]; rfl
 have hBk0 := hBk.alloc (.cells #[.int .i64 r.kind, .int .i64 r.seq, .int .i64 r.addr, .int .i64 r.val] 64)
 obtain ⟨⟨Ap, cp⟩, hx, z0, z1, z2, z3, hR, _⟩ := hBk0.at_ hB
 dsimp only at z0 hR
 have hcl : clean B ≤ 4 := by rw [← hBm]; exact zik B
 have hi4' : (i : Int) < 4 := by omega
 have hfin : Hid (xv f i r torn = if clean B = 0 ∨ qd f r.seq = true then (f, false) else (f.set i { B with pages := B.pages.set (4 - clean B) (if torn then ⟨2, rc0⟩ else ⟨1, r⟩) }, true)) := by unfold Hid xv; rw [hBget]
 have HP := Lib.hid (show ∀ b ∈ f, b.pages.length < 1000000000000 from fun b hb => by rw [hp b hb]; omega)
 have hpl : B.pages.length < 1000000000000 := by omega
 have HB := Lib.hid hB
 have HBM := Lib.hid hBm
 have HX := Lib.hid hx
 have HL := Lib.hid hl
 have hl4 : f.length < 1000000000000 := by omega
 clear hl hp hBget hBm hB hx
 go_enter Tryz.func126, Tryz.ntmps126
 go_wp2_with fail
 refine (Ym B Ap cp _ hpl hR).mono ?_
 rintro e w1 ⟨rfl, hb⟩
 have hB1 : Below w.heap.size w w1 := Below.trans bw (hb.mono (by simp))
 have hz : w.heap.size < w1.heap.size := by have := hb.size; simp at this; omega
 obtain ⟨hc, hf⟩ := jr hb
 have hBk1 := hBk0.below hb nl
 clear hb z0 z1 z2 z3 hR
 generalize clean B = n at *
 by_cases h0 : n = 0
 . subst h0
   have h3 : Hid (xv f i r torn = (f, false)) := by rw [Hid, hfin.out, if_pos (.inl rfl)]
   go_wp2
   go_ret2
   rw [h3.out]
   exact ⟨rfl, hBk1, Agr.of_below hB1⟩
 . have hn0 : ((n : Int) == 0) = false := by rw [beq_eq_false_iff_ne]; omega
   go_wp2_with fail
   rw [← HL.out]
   refine (zi8 f r.seq _ c _ hl4 HP.out ⟨hs, hBk1⟩).mono ?_
   rintro e w2 ⟨rfl, rfl⟩
   rw [HL.out]
   by_cases hsq : qd f r.seq = true
   . have h3 : Hid (xv f i r torn = (f, false)) := by rw [Hid, hfin.out, if_pos (.inr hsq)]
     rw [hsq]
     go_wp2
     go_ret2
     rw [h3.out]
     exact ⟨rfl, hBk1, Agr.of_below hB1⟩
   . have h3 : Hid (xv f i r torn = (f.set i { B with pages := B.pages.set (4 - n) (if torn then ⟨2, rc0⟩ else ⟨1, r⟩) }, true)) := by
      rw [Hid, hfin.out, if_neg (by intro h; rcases h with h | h; exact h0 h; exact hsq h)]
     rw [show qd f r.seq = false by simpa using hsq]
     obtain ⟨j, hj⟩ : ∃ j, j + n = 4 := ⟨4 - n, by omega⟩
     have hj4 : 4 - n = j := by omega
     have e1 : IntKind.i64.wrap ((4 : Int) - n) = (j : Int) := by rw [show (4 : Int) - n = j by omega]; exact IntWalk.i64_in _ (by omega)
     have e2 : (4 : Int) - n = (j : Int) := by omega
     rw [hj4] at h3
     clear hj4 hfin hsq
     obtain ⟨x, hx2, y0, y1, _, _, hR1, _⟩ := hBk1.at_ HB.out
     rw [HX.out] at hx2
     cases hx2
     dsimp only at y0 hR1
     rw [HBM.out] at y0
     obtain ⟨p, hq⟩ := zd (l := B.pages) (k := j) (by rw [HBM.out]; omega)
     obtain ⟨pb, po, rfl⟩ := hR1.addr (kq (by intro e; rw [e] at hq; simp at hq))
     obtain ⟨c0, c1, c2, c3, c4⟩ := hR1.pg hq
     obtain ⟨f0, f1, f2, f3, f4⟩ := hR1.pgf hq
     have hj1 : (j : Int) < 4 := by omega
     have hpin := hApt.in_ i _ pb HX.out (by rw [zg])
     have HQ := Lib.hid hq
     have hpb := ze c0
     have hgl := ze y0
     clear hq
     cases torn
     . have hWp := yi hR1 HQ.out ⟨1, r⟩
       have hBk2 := hBk1.setPage hApt HB.out HX.out (by rw [HBM.out]; omega) hWp
       have hA2 := (Agr.of_below hB1 (S := fblk (some ⟨g, o, none⟩) hs)).trans hWp.agr (fun b _ e => .inr ⟨i, _, HX.out, by rw [e, zg]⟩)
       clear hWp hBk1
       go_wp2
       go_region
       go_wp2
       go_ret2
       rw [h3.out]
       exact ⟨rfl, (hBk2.alloc _).drew, (hA2.alloc _).drew⟩
     . have hWp := yi hR1 HQ.out ⟨2, rc0⟩
       have hBk2 := hBk1.setPage hApt HB.out HX.out (by rw [HBM.out]; omega) hWp
       have hA2 := (Agr.of_below hB1 (S := fblk (some ⟨g, o, none⟩) hs)).trans hWp.agr (fun b _ e => .inr ⟨i, _, HX.out, by rw [e, zg]⟩)
       simp only [rc0] at hBk2 hA2
       clear hWp hBk1
       go_wp2
       go_region
       go_wp2
       go_ret2
       rw [h3.out]
       exact ⟨rfl, (hBk2.alloc _).drew, (hA2.alloc _).drew⟩
end
section
open Go.RowKit Go.Maps
theorem Tryz.info3_step : (Tryz.prog.info? 81).map (fun i => (i.zero, i.size, i.bytes)) = some (some (.agg #[.int .i64 0, .int .i64 0, .int .i64 0, .int .i64 0, .int .i64 0, .int .i64 0, .int .i64 0, .int .i64 0]), 8, 64) := by kernel_rfl
theorem zd6 (n : Nat) (f : List Bk) (A : Option Addr) (c : Nat) (w : World) (hn : n = f.length) (hl : f.length < 1000000000000) (hp : ∀ b ∈ f, b.pages.length < 1000000000000) (hF : Fl w A f) :
 Calls Tryz.prog 61 #[.slice A n c] w fun e w' => e = .returned (.tuple #[.int .i64 (kz f).1, .bool (kz f).2]) ∧ 0 ≤ (kz f).1 ∧ (f ≠ [] -> (kz f).1 < f.length) ∧ Below w.heap.size w w' := by subst hn; exact zgf f A c w hl hp hF
theorem zgg (n : Nat) (f : List Bk) (A : Option Addr) (c : Nat) (w : World) (hn : n = f.length) (hl : f.length < 1000000000000) (h0 : 0 < f.length) (hp : ∀ b ∈ f, b.pages.length < 1000000000000) (hF : Fl w A f) :
 Calls Tryz.prog 114 #[.slice A n c] w fun e w' => e = .returned (.int .i64 (old f)) ∧ old f < f.length ∧ Below w.heap.size w w' := by subst hn; exact zi7 f A c w hl h0 hp hF
theorem zd7 (n : Nat) (f : List Bk) (A : Option Addr) (c : Nat) (w : World) (hn : n = f.length) (hl : f.length < 1000000000000) (hp : ∀ b ∈ f, b.pages.length < 1000000000000) (hm : ∀ b ∈ f, most b < 1000000000000) (hF : Fl w A f) :
 Calls Tryz.prog 70 #[.slice A n c] w fun e w' => e = .returned (.int .i64 (next f)) ∧ Below w.heap.size w w' := by subst hn; exact zgh f A c w hl hp hm hF
theorem zd8 (n : Nat) (f : List Bk) (p : Pg) (A : Option Addr) (c : Nat) (w : World) (hn : n = f.length) (hl : f.length < 1000000000000) (hp : ∀ b ∈ f, b.pages.length < 1000000000000) (hF : Fl w A f) :
 Calls Tryz.prog 115 #[.slice A n c, .agg #[.int .i64 p.state, .int .i64 p.rc.kind, .int .i64 p.rc.seq, .int .i64 p.rc.addr, .int .i64 p.rc.val]] w fun e w' => e = .returned (.bool (live f p)) ∧ Below w.heap.size w w' := by subst hn; exact zgi f p A c w hl hp hF
theorem zd9 (n : Nat) (f : List Bk) (addr : Int) (A : Option Addr) (c : Nat) (w : World) (hn : n = f.length) (hl : f.length < 1000000000000) (hp : ∀ b ∈ f, b.pages.length < 1000000000000) (hF : Fl w A f) :
 Calls Tryz.prog 68 #[.slice A n c, .int .i64 addr] w fun e w' => e = .returned (.tuple #[.agg #[.int .i64 (last f addr).kind, .int .i64 (last f addr).seq, .int .i64 (last f addr).addr, .int .i64 (last f addr).val], .bool (decide (0 < (last f addr).seq))]) ∧ Below w.heap.size w w' := by subst hn; exact Z0 f addr A c w hl hp hF
theorem za7 (n : Nat) (f : List Bk) (a : Int) (A D : Option Addr) (c m d : Nat) (w : World) (hn : n = f.length) (hl : f.length < 1000000000000) (hp : ∀ b ∈ f, b.pages.length < 1000000000000) (hF : Fl w A f) :
 Calls Tryz.prog 123 #[.agg #[.slice A n c, .slice D m d], .int .i64 a] w fun e w' => e = .returned (.bool (xq f a)) ∧ Below w.heap.size w w' := by subst hn; exact zcs f a A D c m d w hl hp hF
theorem zcr (n : Nat) (s : St) (a : Int) (A D : Option Addr) (c d : Nat) (w : World) (hn : n = s.flash.length) (hl : s.flash.length < 1000000000000) (hp : ∀ b ∈ s.flash, b.pages.length < 1000000000000) (hd : s.disk.length = 6) (ha : 1 ≤ a) (ha2 : a ≤ 6) (hF : Fl w A s.flash) (hD : Row w D (ints s.disk)) :
 Calls Tryz.prog 124 #[.agg #[.slice A n c, .slice D 6 d], .int .i64 a] w fun e w' => e = .returned (.int .i64 (xh s a)) ∧ Below w.heap.size w w' := by subst hn; exact zed s a A D c d w hl hp hd ha ha2 hF hD
def OwnS (w : World) (base : Nat) (v : Value) (xs : List Sp) : Prop := w.ownsRow base 81 8 v xs.length (sps xs)
theorem ji {w w' : World} {base : Nat} {e : TypeId} {size n : Nat} {v : Value} {xs : List Value} (h : w.ownsRow base e size v n xs) (hk : ∀ b, v.ownBlock = some b -> b < w.heap.size -> w'.heap[b]? = w.heap[b]?) : w'.ownsRow base e size v n xs := by
 refine ⟨h.1, ?_⟩
 rcases h.2 with hn | ⟨g, cap, cur, hv, hb, hg, rest⟩
 . exact .inl hn
 . have hl : g < w.heap.size := by
    rcases Nat.lt_or_ge g w.heap.size with hl | hl
    . exact hl
    . rw [Array.getElem?_eq_none hl] at hg; cases hg
   exact .inr ⟨g, cap, cur, hv, hb, by rw [hk g (by rw [hv]; rfl) hl]; exact hg, rest⟩
theorem OwnS.below {w w' : World} {base B : Nat} {v : Value} {xs : List Sp} (h : OwnS w base v xs) (hb : Below B w w') (hB : w.heap.size ≤ B) : OwnS w' base v xs := ji h fun b _ hl => hb.block b (by omega)
theorem OwnS.agr {w w' : World} {base : Nat} {v : Value} {xs : List Sp} {S : Nat -> Prop} (h : OwnS w base v xs) (hb : Agr S w w') (hS : ∀ b, base ≤ b -> ¬ S b) : OwnS w' base v xs := by
 refine ji h fun b hbl hl => hb.block b hl (hS b ?_)
 exact (World.ownsRow.lt h b hbl).1
theorem OwnS.mono {w : World} {base base' : Nat} {v : Value} {xs : List Sp} (h : OwnS w base v xs) (hb : base' ≤ base) : OwnS w base' v xs := World.ownsRow.mono h hb
theorem OwnS.nil (w : World) (base : Nat) (hb : base ≤ w.heap.size) : OwnS (w.alloc (.cells #[] 81)) base (.slice (some ⟨w.heap.size, 0, none⟩) 0 0) [] := World.ownsRow_lit w #[] 0 hb (by unfold maxLen; omega) rfl
theorem OwnS.shape {w : World} {base : Nat} {v : Value} {xs : List Sp} (h : OwnS w base v xs) : ∃ A c, v = .slice A xs.length c ∧ xs.length ≤ c ∧ Row w A (sps xs) ∧ ∀ b, blk A b -> base ≤ b ∧ b < w.heap.size := by
 rcases h.2 with ⟨hv, hn⟩ | ⟨g, cap, cur, hv, hb, hg, hc, rest⟩
 . exact ⟨none, 0, by rw [hv, hn], by omega, by have : xs = [] := List.length_eq_zero_iff.1 hn; subst this; exact Row.nil _ _, fun b hb => by simp [blk] at hb⟩
 . refine ⟨some ⟨g, 0, none⟩, cap, hv, hc, Row.of_own (by rw [← hv]; exact h), fun b hbb => ?_⟩
   rw [zg] at hbb
   subst hbb
   exact ⟨hb, (World.ownsRow.lt h g (by rw [hv]; rfl)).2⟩
theorem OwnS.snoc {w : World} {base g n c : Nat} {xs : List Sp} {x : Sp} (hn : n = xs.length + 1) (h : w.ownsRow base 81 8 (.slice (some ⟨g, 0, none⟩) (xs.length + 1) c) (xs.length + 1) (sps xs ++ x.vs)) : OwnS w base (.slice (some ⟨g, 0, none⟩) n c) (xs ++ [x]) := by
 subst hn
 unfold OwnS
 rw [List.length_append, sps, List.flatMap_append, show [x].flatMap Sp.vs = x.vs by simp]
 exact h
theorem zbf (f : List Bk) (xs : List Sp) (p : Pg) (r : List Pg) : xs ++ tells f (p :: r) = (if told f p then xs ++ [Zk p] else xs) ++ tells f r := by
 unfold tells
 rw [List.filter_cons]
 split
 . simp
 . rfl
theorem zk7 {f : List Bk} : ∀ (r : List Bk) (i out : Nat), i + r.length = f.length -> out < f.length -> Kk f i out r < f.length
 | [], _, _, _, h => h
 | b :: r, i, out, hi, h => by
   rw [List.length_cons] at hi
   unfold Kk
   split
   . exact zk7 r _ _ (by omega) (by omega)
   . exact zk7 r _ _ (by omega) h
theorem zeb (f : List Bk) (A D : Option Addr) (c m d : Nat) (w : World) (hf : f.length = 4) (hp : ∀ b ∈ f, b.pages.length = 4) (hF : Fl w A f) :
 Calls Tryz.prog 71 #[.agg #[.slice A 4 c, .slice D m d]] w fun e w' => ∃ v, e = .returned (.tuple #[v, .int .i64 (room f).2.1, .bool (room f).2.2]) ∧ OwnS w' w.heap.size v (room f).1 ∧ Below w.heap.size w w' := by
 obtain ⟨ib, hib, hbz0, hbz1, hbz2⟩ := info_parts Tryz.info3_step
 have HL := Lib.hid hf
 have HP4 := Lib.hid hp
 have hl4 : f.length < 1000000000000 := by omega
 have h04 : 0 < f.length := by omega
 have HP := Lib.hid (show ∀ b ∈ f, b.pages.length < 1000000000000 from fun b hb => by rw [hp b hb]; omega)
 clear hf hp
 go_enter Tryz.func71, Tryz.ntmps71
 go_wp2_with fail
 refine (zd6 _ f A c _ HL.out.symm hl4 HP.out ((hF.alloc _).alloc _)).mono ?_
 rintro e w1 ⟨rfl, ho0, ho1, hb⟩
 have hB : Below w.heap.size w w1 := Below.trans bw (hb.mono (by simp; omega))
 have hz : w.heap.size + 1 < w1.heap.size := by have := hb.size; simp at this; omega
 obtain ⟨hc, hfz⟩ := jr hb
 have hO1 : OwnS w1 (w.heap.size + 1) (.slice (some ⟨w.heap.size + 1, 0, none⟩) 0 0) [] := by
  have := (OwnS.nil (w.alloc (.cells #[.slice A 4 c, .slice D m d] 28)) (w.heap.size + 1) (by simp))
  simp only [World.size_alloc] at this
  exact this.below hb (by simp)
 have hb0 : w1.cell? ⟨w.heap.size, 0, none⟩ = some (.slice A 4 c) := (hc _ _ (by simp <;> omega)).trans (by simp)
 clear hb hc hfz
 by_cases h1 : (kz f).2 = true
 . have h3 : Hid (room f = ([], (kz f).1, true)) := by unfold Hid room; rw [if_pos h1]
   rw [h1]
   go_wp2
   go_ret3
   rw [h3.out]
   exact ⟨_, rfl, hO1.mono (by omega), bw⟩
 . have h3 : Hid (room f = (tells f (f.getD (old f) zbk).pages ++ [⟨2, 0, 0, old f, rc0⟩], (old f : Int), decide ((f.getD (old f) zbk).worn < 200))) := by unfold Hid room; rw [if_neg h1]
   rw [show (kz f).2 = false by simpa using h1]
   clear ho0 ho1
   go_wp2_with fail
   refine (zgg _ f A c _ HL.out.symm hl4 h04 HP.out (hF.below hB nl)).mono ?_
   rintro e w2 ⟨rfl, hol, hb2⟩
   have hO2 := hO1.below hb2 nl
   have hb0' := (hb2.cell (p := ⟨w.heap.size, 0, none⟩) (by simp; omega)).trans hb0
   have hz2 := hb2.size
   have hB2 := hB.trans (hb2.mono hB.size)
   clear hO1 hb0 hB hb2
   generalize old f = i at *
   obtain ⟨B, hBf⟩ := zd hol
   rw [HL.out] at hol
   have hgd : f.getD i zbk = B := by rw [List.getD_eq_getElem?_getD, hBf]; rfl
   rw [hgd] at h3
   have hB4 := HP4.out B (List.mem_of_getElem? hBf)
   have HB := Lib.hid hBf
   have HB4 := Lib.hid hB4
   have hi4 : (i : Int) < 4 := by omega
   obtain ⟨g, o, rfl⟩ := (hF.below hB2 nl).choose_spec.addr (by intro e; rw [e] at hBf; simp at hBf)
   have hT : Hid (tells f B.pages = [] ++ tells f (B.pages.drop 0)) := rfl
   clear hgd hBf hB4
   go_wp2
   go_loopw [5, 9] (fun u q wr => ∃ (k : Nat) (xs : List Sp) (v : Value), k ≤ 4 ∧ q = .int .i64 k ∧ v = u ∧ xs.length ≤ k ∧ OwnS wr (w.heap.size + 1) v xs ∧ Below w.heap.size w wr ∧ wr.cell? ⟨w.heap.size, 0, none⟩ = some (.slice (some ⟨g, o, none⟩) 4 c) ∧ w.heap.size + 1 < wr.heap.size ∧ Hid (tells f B.pages = xs ++ tells f (B.pages.drop k))) (fun _ q _ => 4 - (intOf q).toNat)
   case atStart => exact ⟨0, [], _, by omega, rfl, rfl, by simp, hO2, hB2, hb0', by omega, hT⟩
   case round =>
    clear hT hO2 hb0' hz2 hB2 hz
    obtain ⟨k, xs, v, hk, rfl, rfl, hxk, hO, hb, hbx, hz, hT⟩ := hrel
    obtain ⟨hs, hBk⟩ := hF.below hb nl
    obtain ⟨⟨Ap, cp⟩, _, z0, z1, _, _, hR, _⟩ := hBk.at_ HB.out
    dsimp only at z0 hR
    rw [HB4.out] at z0
    by_cases hlt : k < 4
    . obtain ⟨p, hq⟩ := zd (l := B.pages) (k := k) (by have := HB4.out; omega)
      obtain ⟨pb, po, rfl⟩ := hR.addr (kq (by intro e; rw [e] at hq; simp at hq))
      obtain ⟨c0, c1, c2, c3, c4⟩ := hR.pg hq
      have hT1 : Hid (tells f B.pages = (if told f p then xs ++ [Zk p] else xs) ++ tells f (B.pages.drop (k + 1))) := by rw [Hid, hT.out, zu hq, zbf]
      have hk4 : (k : Int) < 4 := by omega
      have hzz : w.heap.size < wr.heap.size := by omega
      clear hq hT hBk hR
      go_wp2_with fail
      refine (zd8 _ f p _ c _ HL.out.symm hl4 HP.out ((hF.below hb nl).alloc _)).mono ?_
      rintro e w3 ⟨rfl, hb3⟩
      have hO3 := (hO.below ((Below.refl wr.heap.size _).alloc nl (.cells #[.int .i64 p.state, .int .i64 p.rc.kind, .int .i64 p.rc.seq, .int .i64 p.rc.addr, .int .i64 p.rc.val] 76)) nl).below hb3 nl
      have hbx3 := (hb3.cell (p := ⟨w.heap.size, 0, none⟩) (by show w.heap.size < _; simp; omega)).trans ((((Below.refl wr.heap.size wr).alloc nl (.cells #[.int .i64 p.state, .int .i64 p.rc.kind, .int .i64 p.rc.seq, .int .i64 p.rc.addr, .int .i64 p.rc.val] 76)).cell (p := ⟨w.heap.size, 0, none⟩) (by show w.heap.size < wr.heap.size; omega)).trans hbx)
      have hB3 : Below w.heap.size w w3 := Below.trans bw (hb3.mono (by simp; omega))
      have hs3 : wr.heap.size + 1 ≤ w3.heap.size := by have := hb3.size; simpa using this
      obtain ⟨hc3, _⟩ := jr hb3
      have p1 : w3.cell? ⟨wr.heap.size, 1, none⟩ = some (.int .i64 p.rc.kind) := (hc3 _ _ (by simp)).trans (by simp)
      have p3 : w3.cell? ⟨wr.heap.size, 3, none⟩ = some (.int .i64 p.rc.addr) := (hc3 _ _ (by simp)).trans (by simp)
      have p4 : w3.cell? ⟨wr.heap.size, 4, none⟩ = some (.int .i64 p.rc.val) := (hc3 _ _ (by simp)).trans (by simp)
      have htd : Hid (told f p = (live f p && decide (p.rc.kind = 1))) := rfl
      clear hb3 hc3 hO hbx hb c0 c1 c2 c3 c4 z0 z1
      generalize live f p = lv at *
      by_cases hd : lv = true ∧ p.rc.kind = 1
      . obtain ⟨rfl, hk1⟩ := hd
        have hT2 : Hid (tells f B.pages = (xs ++ [Zk p]) ++ tells f (B.pages.drop (k + 1))) := by rw [Hid, hT1.out, if_pos (by rw [htd.out]; simp [hk1])]
        rw [hk1] at p1
        clear hT1 htd
        have hO4 := hO3.below ((Below.refl w3.heap.size _).alloc nl (.cells #[.int .i64 1, .int .i64 p.rc.addr, .int .i64 p.rc.val, .int .i64 0, .int .i64 0, .int .i64 0, .int .i64 0, .int .i64 0] 81)) nl
        have hnb : v.ownBlock = none ∨ ∃ b, v.ownBlock = some b ∧ w.heap.size + 1 ≤ b ∧ b < w3.heap.size := by
         rcases h : v.ownBlock with _ | b
         . exact .inl rfl
         . have := World.ownsRow.lt hO3 b h; exact .inr ⟨b, rfl, this.1, this.2⟩
        go_wp2_with (at_builtin; refine wpList_append_lies _ rfl (.tmp 47) (.tmp 55) _ rfl (w.heap.size + 1) 81 ib _ 8 64 Tryz.underlying39 hib hbz0 hbz1 hbz2 rfl (by omega) v xs.length (sps xs) rfl hO4 ⟨w3.heap.size, 0, none⟩ 1 1 (Zk p).vs rfl rfl (World.news_of_block (cs := #[.int .i64 1, .int .i64 p.rc.addr, .int .i64 p.rc.val, .int .i64 0, .int .i64 0, .int .i64 0, .int .i64 0, .int .i64 0]) (t := 81) (fr := (0, 0)) (heap_alloc_new w3 _)) (by simp [Value.oneCell', Zk, Sp.vs, rc0]) (by omega) (by unfold maxLen; omega) (by omega) (by simp; omega) (w3.heap.size + 1) (by simp) ?_; intro g2 c2 w4 hown2 hgrow2 hat2 hlt2)
        have hgb : ∀ q, v.ownBlock = some q -> w.heap.size + 1 ≤ q := fun q e => by
         rcases hnb with h | ⟨b, h, h1, _⟩
         . rw [h] at e; cases e
         . rw [h] at e; cases e; exact h1
        have hbb : Below (w.heap.size + 1) w3 w4 := ((Below.refl _ _).alloc (by omega) _).grown hgrow2 (by simp; omega) hgb
        have hB4 : Below w.heap.size w w4 := hB3.trans (hbb.mono (by omega))
        have hbx4 := (hbb.cell (p := ⟨w.heap.size, 0, none⟩) (by show w.heap.size < _; omega)).trans hbx3
        have hs4 := hbb.size
        have hOS := OwnS.snoc (x := Zk p) rfl hown2
        go_roundw
        case rel => exact ⟨k + 1, xs ++ [Zk p], _, by omega, by go_num, rfl, by simp; omega, hOS, hB4, hbx4, by omega, hT2⟩
        case measure => simp [intOf]; omega
      . have hT2 : Hid (tells f B.pages = xs ++ tells f (B.pages.drop (k + 1))) := by
         rw [Hid, hT1.out, if_neg (by
          rw [htd.out]
          intro h
          simp at h
          exact hd h)]
        clear hT1 htd
        rcases Bool.eq_false_or_eq_true lv with rfl | rfl
        . have hk1 : ¬ p.rc.kind = 1 := fun h => hd ⟨rfl, h⟩
          go_wp2
          go_roundw
          case rel => exact ⟨k + 1, xs, v, by omega, by go_num, rfl, by omega, hO3, hB3, hbx3, by omega, hT2⟩
          case measure => simp [intOf]; omega
        . go_wp2
          go_roundw
          case rel => exact ⟨k + 1, xs, v, by omega, by go_num, rfl, by omega, hO3, hB3, hbx3, by omega, hT2⟩
          case measure => simp [intOf]; omega
    . obtain rfl : k = 4 := by omega
      have hT2 : Hid (tells f B.pages = xs) := by
       rw [Hid, hT.out, List.drop_of_length_le (by rw [HB4.out]; exact Nat.le_refl _)]
       simp [tells]
      rw [hT2.out] at h3
      have hzz : w.heap.size < wr.heap.size := by omega
      have hnb : ∀ q, v.ownBlock = some q -> w.heap.size + 1 ≤ q := fun q e => (World.ownsRow.lt hO q e).1
      have hgl := ze z1
      have hs1 := hb.size
      have hgw : g < w.heap.size := by
       obtain ⟨hs', hBk'⟩ := hF
       obtain ⟨_, _, _, z1', _⟩ := hBk'.at_ HB.out
       exact ze z1'
      clear hT hBk hR z0
      go_wp2
      go_region_held3 (fun w' => w'.cell? ⟨w.heap.size, 0, none⟩ = some (.slice (some ⟨g, o, none⟩) 4 c) ∧ w'.cell? ⟨g, o + i * 2 + 1, none⟩ = some (.int .i64 B.worn)) (first | go_keep | trivial)
       (first
        | (refine step_append_lies _ (by rfl) (.tmp 57) (.tmp 60) _ (by rfl) (w.heap.size + 1) 81 ib _ 8 64 Tryz.underlying39 hib hbz0 hbz1 hbz2 rfl (by omega) v xs.length (sps xs) (by rfl) (World.ownsRow.drew (World.ownsRow.alloc hO (.cells #[.int .i64 2, .int .i64 0, .int .i64 0, .int .i64 i, .int .i64 0, .int .i64 0, .int .i64 0, .int .i64 0] 81))) ⟨wr.heap.size, 0, none⟩ 1 1 (⟨2, 0, 0, i, rc0⟩ : Sp).vs (by rfl) (by rfl) (World.news_of_block (cs := #[.int .i64 2, .int .i64 0, .int .i64 0, .int .i64 i, .int .i64 0, .int .i64 0, .int .i64 0, .int .i64 0]) (t := 81) (fr := (0, 0)) (heap_alloc_new wr _)) (by simp [Value.oneCell', Sp.vs, rc0]) (by omega) (by unfold maxLen; omega) (by omega) (by simp; omega) (wr.heap.size + 1) (by simp) ?_; intro g2 c2 w4 hown2 hgrow2 hat2 hlt2; have hbb : Below (w.heap.size + 1) wr w4 := (((Below.refl _ _).alloc (by omega) _).drew).grown hgrow2 (by simp; omega) hnb; have y0 := (hbb.cell (p := ⟨w.heap.size, 0, none⟩) (by show w.heap.size < _; omega)).trans hbx; have y1 : w4.cell? ⟨g, o + i * 2 + 1, none⟩ = some (.int .i64 B.worn) := (hbb.cell (p := ⟨g, o + i * 2 + 1, none⟩) (by show g < _; omega)).trans z1))
      have hOS := OwnS.snoc (x := ⟨2, 0, 0, i, rc0⟩) rfl hown2
      go_wp2
      go_ret3
      rw [h3.out]
      exact ⟨_, rfl, hOS.mono (by omega), hb.trans (hbb.mono (by omega))⟩
theorem zko (f : List Bk) (ps : List Pg) : (tells f ps).length ≤ ps.length := by
 unfold tells; rw [List.length_map]; exact List.length_filter_le _ _
theorem zht {f : List Bk} (hf : f.length = 4) (hp : ∀ b ∈ f, b.pages.length = 4) : (room f).1.length ≤ 5 := by
 unfold room
 split
 . simp
 . have h1 := zko f (f.getD (old f) zbk).pages
   have hlt : old f < f.length := zk7 _ _ _ (by simp; omega) (by omega)
   have h2 : (f.getD (old f) zbk).pages.length = 4 := by
    rw [List.getD_eq_getElem?_getD, List.getElem?_eq_getElem hlt]
    exact hp _ (List.getElem_mem hlt)
   rw [List.length_append]; simp only [List.length_cons, List.length_nil]; omega
end
section
open Go.RowKit Go.Maps
theorem Z1 (f : List Bk) (kind addr val : Int) (A D : Option Addr) (c m d : Nat) (w : World) (hf : f.length = 4) (hp : ∀ b ∈ f, b.pages.length = 4) (hm : ∀ b ∈ f, most b < 1000000000000) (hF : Fl w A f) :
 Calls Tryz.prog 38 #[.agg #[.slice A 4 c, .slice D m d], .int .i64 kind, .int .i64 addr, .int .i64 val] w fun e w' => ∃ v, e = .returned v ∧ OwnS w' w.heap.size v (wr f kind addr val) ∧ Below w.heap.size w w' := by
 obtain ⟨ib, hib, hbz0, hbz1, hbz2⟩ := info_parts Tryz.info3_step
 have HL := Lib.hid hf
 have HP4 := Lib.hid hp
 have HM := Lib.hid hm
 have hl4 : f.length < 1000000000000 := by omega
 have HP := Lib.hid (show ∀ b ∈ f, b.pages.length < 1000000000000 from fun b hb => by rw [hp b hb]; omega)
 have hfin : Hid (wr f kind addr val = if (room f).2.2 = false ∨ xk ⟨kind, next f, addr, val⟩ = false then [] else (room f).1 ++ [⟨3, 0, 0, (room f).2.1, ⟨kind, next f, addr, val⟩⟩]) := rfl
 have hrl : (room f).1.length ≤ 5 := zht hf hp
 clear hf hp hm
 go_enter Tryz.func38, Tryz.ntmps38
 go_wp2_with fail
 refine (zd7 _ f A c _ HL.out.symm hl4 HP.out HM.out (hF.alloc _)).mono ?_
 rintro e w1 ⟨rfl, hb⟩
 have hB : Below w.heap.size w w1 := Below.trans bw (hb.mono (by simp))
 have hz : w.heap.size < w1.heap.size := by have := hb.size; simp at this; omega
 obtain ⟨hc, hfz⟩ := jr hb
 have x0 : w1.cell? ⟨w.heap.size, 0, none⟩ = some (.slice A 4 c) := (hc _ _ (by simp)).trans (by simp)
 have x1 : w1.cell? ⟨w.heap.size, 1, none⟩ = some (.slice D m d) := (hc _ _ (by simp)).trans (by simp)
 clear hb hc hfz
 generalize next f = nx at *
 go_wp2_with fail
 refine (zeb f A D c m d _ HL.out HP4.out ((hF.below hB nl).alloc _)).mono ?_
 rintro e w2 ⟨v, rfl, hO, hb2⟩
 obtain ⟨hc, hfz⟩ := jr hb2
 have r0 : w2.cell? ⟨w1.heap.size, 0, none⟩ = some (.int .i64 kind) := (hc _ _ (by simp)).trans (by simp)
 have r1 : w2.cell? ⟨w1.heap.size, 1, none⟩ = some (.int .i64 nx) := (hc _ _ (by simp)).trans (by simp)
 have r2 : w2.cell? ⟨w1.heap.size, 2, none⟩ = some (.int .i64 addr) := (hc _ _ (by simp)).trans (by simp)
 have r3 : w2.cell? ⟨w1.heap.size, 3, none⟩ = some (.int .i64 val) := (hc _ _ (by simp)).trans (by simp)
 have hB2 : Below w.heap.size w w2 := (hB.alloc hB.size _).trans (hb2.mono (by simp; omega))
 have hz2 : w1.heap.size + 1 ≤ w2.heap.size := by have := hb2.size; simpa using this
 replace hO := hO.mono (base' := w1.heap.size) (by simp)
 clear hb2 hc hfz x0 x1 hB
 generalize room f = rm at *
 obtain ⟨xs, bi, ok⟩ := rm
 dsimp only at *
 cases ok
 . have h3 : Hid (wr f kind addr val = []) := by rw [Hid, hfin.out, if_pos (.inl rfl)]
   go_wp2
   go_ret
   rw [h3.out]
   exact ⟨_, rfl, OwnS.nil _ _ (by omega), bw⟩
 . go_wp2_with fail
   refine (zi9 ⟨kind, nx, addr, val⟩ _).mono ?_
   rintro e w3 ⟨rfl, hb3⟩
   obtain ⟨hc, hfz⟩ := jr hb3
   replace r0 := (hc _ _ (ze r0)).trans r0
   replace r1 := (hc _ _ (ze r1)).trans r1
   replace r2 := (hc _ _ (ze r2)).trans r2
   replace r3 := (hc _ _ (ze r3)).trans r3
   have hB3 := hB2.trans (hb3.mono hB2.size)
   have hz3 := hb3.size
   have hO3 := hO.below hb3 nl
   clear hO hc hfz hb3
   by_cases hok : xk ⟨kind, nx, addr, val⟩ = true
   . have h3 : Hid (wr f kind addr val = xs ++ [⟨3, 0, 0, bi, ⟨kind, nx, addr, val⟩⟩]) := by
      rw [Hid, hfin.out, if_neg (by intro h; rcases h with h | h; cases h; rw [hok] at h; cases h)]
     rw [hok]
     have hO4 := hO3.below ((Below.refl w3.heap.size _).alloc nl (.cells #[.int .i64 3, .int .i64 0, .int .i64 0, .int .i64 bi, .int .i64 kind, .int .i64 nx, .int .i64 addr, .int .i64 val] 81)) nl
     have hnb : ∀ q, v.ownBlock = some q -> w1.heap.size ≤ q := fun q e => (World.ownsRow.lt hO3 q e).1
     clear hfin
     go_wp2_with (at_builtin; refine wpList_append_lies _ rfl (.tmp 34) (.tmp 38) _ rfl w1.heap.size 81 ib _ 8 64 Tryz.underlying39 hib hbz0 hbz1 hbz2 rfl (by omega) v xs.length (sps xs) rfl hO4 ⟨w3.heap.size, 0, none⟩ 1 1 (⟨3, 0, 0, bi, ⟨kind, nx, addr, val⟩⟩ : Sp).vs rfl rfl (World.news_of_block (cs := #[.int .i64 3, .int .i64 0, .int .i64 0, .int .i64 bi, .int .i64 kind, .int .i64 nx, .int .i64 addr, .int .i64 val]) (t := 81) (fr := (0, 0)) (heap_alloc_new w3 _)) (by simp [Value.oneCell', Sp.vs]) (by omega) (by unfold maxLen; omega) (by omega) (by simp; omega) (w3.heap.size + 1) (by simp) ?_; intro g2 c2 w4 hown2 hgrow2 hat2 hlt2)
     have hbb : Below w1.heap.size w3 w4 := ((Below.refl _ _).alloc (by omega) _).grown hgrow2 (by simp; omega) hnb
     have hOS := OwnS.snoc (x := ⟨3, 0, 0, bi, ⟨kind, nx, addr, val⟩⟩) rfl hown2
     go_ret
     rw [h3.out]
     exact ⟨_, rfl, hOS.mono (by omega), hB3.trans (hbb.mono (by omega))⟩
   . have hok' : xk ⟨kind, nx, addr, val⟩ = false := by simpa using hok
     have h3 : Hid (wr f kind addr val = []) := by rw [Hid, hfin.out, if_pos (.inr hok')]
     rw [hok']
     go_wp2
     go_ret
     rw [h3.out]
     exact ⟨_, rfl, OwnS.nil _ _ (by omega), bw⟩
end
section
open Go.RowKit Go.Maps
theorem Fl.drew' {w : World} {A : Option Addr} {f : List Bk} (h : Fl w A f) : Fl w.drew A f := by obtain ⟨hs, h⟩ := h; exact ⟨hs, h.drew⟩
theorem zgd (xs : List Sp) : ∀ v ∈ sps xs, v.oneCell' = true := by
 intro v hv
 unfold sps at hv
 obtain ⟨x, _, hx⟩ := List.mem_flatMap.1 hv
 unfold Sp.vs at hx
 simp at hx
 rcases hx with h | h | h | h | h | h | h | h <;> (subst h; rfl)
theorem OwnS.onto {w : World} {base g n c : Nat} {xs ys : List Sp} (hn : n = xs.length + ys.length) (h : w.ownsRow base 81 8 (.slice (some ⟨g, 0, none⟩) n c) n (sps xs ++ sps ys)) : OwnS w base (.slice (some ⟨g, 0, none⟩) n c) (xs ++ ys) := by
 subst hn
 unfold OwnS
 rw [List.length_append, sps, List.flatMap_append]
 exact h
theorem zdw {f : List Bk} (hf : f.length = 4) (hp : ∀ b ∈ f, b.pages.length = 4) (k a v : Int) : (wr f k a v).length ≤ 6 := by
 have := zht hf hp
 unfold wr
 split
 . simp
 . rw [List.length_append]; simp only [List.length_cons, List.length_nil]; omega
theorem Jc (s : St) (a : Int) (A D : Option Addr) (c d : Nat) (w : World) (hf : s.flash.length = 4) (hp : ∀ b ∈ s.flash, b.pages.length = 4) (hm : ∀ b ∈ s.flash, most b < 1000000000000) (hd : s.disk.length = 6) (hF : Fl w A s.flash) (hD : Row w D (ints s.disk)) :
 Calls Tryz.prog 85 #[.agg #[.slice A 4 c, .slice D 6 d], .int .i64 a] w fun e w' => ∃ v, e = .returned v ∧ OwnS w' w.heap.size v (kg s a) ∧ Below w.heap.size w w' := by
 obtain ⟨ib, hib, hbz0, hbz1, hbz2⟩ := info_parts Tryz.info3_step
 have HL := Lib.hid hf
 have HP4 := Lib.hid hp
 have HM := Lib.hid hm
 have HD := Lib.hid hd
 have hl4 : s.flash.length < 1000000000000 := by omega
 have HP := Lib.hid (show ∀ b ∈ s.flash, b.pages.length < 1000000000000 from fun b hb => by rw [hp b hb]; omega)
 have hwl := zdw hf hp 2 a (xh s a)
 have hfin : Hid (kg s a = if kj a = false ∨ xq s.flash a = false then [] else if wr s.flash 2 a (xh s a) = [] then [] else ⟨1, a, xh s a, 0, rc0⟩ :: wr s.flash 2 a (xh s a)) := rfl
 have hin : Hid ((decide (1 ≤ a) && decide (a ≤ 6)) = kj a) := rfl
 clear hf hp hm hd
 go_enter Tryz.func85, Tryz.ntmps85
 go_wp2_with fail
 refine (qm _ _ _ _).mono ?_
 rintro e w1 ⟨rfl, rfl⟩
 rw [hin.out]
 by_cases ha : kj a = true
 . have ha1 : 1 ≤ a ∧ a ≤ 6 := by unfold kj at ha; simpa using ha
   rw [ha]
   obtain ⟨ha1, ha2⟩ := ha1
   go_wp2_with fail
   refine (za7 _ s.flash a A D c 6 d _ HL.out.symm hl4 HP.out (hF.alloc _)).mono ?_
   rintro e w1 ⟨rfl, hb⟩
   have hB : Below w.heap.size w w1 := Below.trans bw (hb.mono (by simp))
   have hz : w.heap.size < w1.heap.size := by have := hb.size; simp at this; omega
   obtain ⟨hc, hfz⟩ := jr hb
   have x0 : w1.cell? ⟨w.heap.size, 0, none⟩ = some (.slice A 4 c) := (hc _ _ (by simp)).trans (by simp)
   have x1 : w1.cell? ⟨w.heap.size, 1, none⟩ = some (.slice D 6 d) := (hc _ _ (by simp)).trans (by simp)
   clear hb hc hfz
   by_cases hdy : xq s.flash a = true
   . rw [hdy]
     go_wp2_with fail
     refine (zcr _ s a A D c d _ HL.out.symm hl4 HP.out HD.out ha1 ha2 (hF.below hB nl) (hD.below hB nl)).mono ?_
     rintro e w2 ⟨rfl, hb⟩
     have hB2 := hB.trans (hb.mono hB.size)
     have hz2 := hb.size
     replace x0 := (hb.cell (p := ⟨w.heap.size, 0, none⟩) hz).trans x0
     replace x1 := (hb.cell (p := ⟨w.heap.size, 1, none⟩) hz).trans x1
     clear hB hb
     generalize xh s a = val at *
     go_wp2_with fail
     refine (Z1 s.flash 2 a val A D c 6 d _ HL.out HP4.out HM.out (hF.below hB2 nl)).mono ?_
     rintro e w3 ⟨v, rfl, hO, hb⟩
     have hB3 := hB2.trans (hb.mono hB2.size)
     have hz3 := hb.size
     have h3 : Hid (kg s a = if wr s.flash 2 a val = [] then [] else ⟨1, a, val, 0, rc0⟩ :: wr s.flash 2 a val) := by
      rw [Hid, hfin.out, if_neg (by rw [ha, hdy]; simp)]
     generalize wr s.flash 2 a val = xs at *
     obtain ⟨A2, c2, rfl, hcap, hRow, hblk⟩ := hO.shape
     clear hfin hb hB2 x0 x1
     by_cases hx : xs = []
     . subst hx
       have h4 : Hid (kg s a = []) := by rw [Hid, h3.out, if_pos rfl]
       go_wp2
       go_ret
       rw [h4.out]
       exact ⟨_, rfl, hO.mono (by omega), hB3⟩
     . have h4 : Hid (kg s a = [⟨1, a, val, 0, rc0⟩] ++ xs) := by rw [Hid, h3.out, if_neg hx]; rfl
       have hlen : 0 < xs.length := List.length_pos_iff.2 hx
       have hle : ((xs.length : Int) == 0) = false := by rw [beq_eq_false_iff_ne]; omega
       obtain ⟨g2, o2, rfl⟩ := hRow.addr (by intro e; have := Zl xs; rw [e] at this; simp at this; omega)
       have hlit : OwnS (w3.alloc (.cells #[.int .i64 1, .int .i64 a, .int .i64 val, .int .i64 0, .int .i64 0, .int .i64 0, .int .i64 0, .int .i64 0] 81)) w.heap.size (.slice (some ⟨w3.heap.size, 0, none⟩) 1 1) [⟨1, a, val, 0, rc0⟩] := World.ownsRow_lit w3 #[.int .i64 1, .int .i64 a, .int .i64 val, .int .i64 0, .int .i64 0, .int .i64 0, .int .i64 0, .int .i64 0] 1 (by omega) (by unfold maxLen; omega) rfl
       clear h3
       go_wp2_with (at_builtin; refine wpList_append_lies _ rfl (.tmp 31) (.tmp 32) _ rfl w.heap.size 81 ib _ 8 64 Tryz.underlying39 hib hbz0 hbz1 hbz2 rfl (by omega) (.slice (some ⟨w3.heap.size, 0, none⟩) 1 1) 1 (sps [⟨1, a, val, 0, rc0⟩]) rfl hlit ⟨g2, o2, none⟩ xs.length c2 (sps xs) rfl (Zl xs) ((hRow.alloc _).news) (zgd xs) hlen (by unfold maxLen; omega) (by omega) (by simp; omega) (w3.heap.size + 1) (by simp) ?_; intro g3 c3 w4 hown2 hgrow2 hat2 hlt2)
       have hbb : Below w3.heap.size w3 w4 := ((Below.refl _ _).alloc (by omega) _).grown hgrow2 (by simp) (by intro q e; cases e; exact Nat.le_refl _)
       have hOS := OwnS.onto (xs := [⟨1, a, val, 0, rc0⟩]) rfl hown2
       go_ret
       rw [h4.out]
       exact ⟨_, rfl, hOS, hB3.trans (hbb.mono (by omega))⟩
   . have hdy' : xq s.flash a = false := by simpa using hdy
     have h3 : Hid (kg s a = []) := by rw [Hid, hfin.out, if_pos (.inr hdy')]
     rw [hdy']
     go_wp2
     go_ret
     rw [h3.out]
     exact ⟨_, rfl, OwnS.nil _ _ (by omega), bw⟩
 . have ha' : kj a = false := by simpa using ha
   have h3 : Hid (kg s a = []) := by rw [Hid, hfin.out, if_pos (.inl ha')]
   rw [ha']
   go_wp2
   go_ret
   rw [h3.out]
   refine ⟨_, rfl, ?_, bw⟩
   have := OwnS.nil (w.alloc (.cells #[.slice A 4 c, .slice D 6 d] 28)) w.heap.size (by simp)
   simp only [World.size_alloc] at this
   exact this
theorem zec (s : St) (a : Int) (A D : Option Addr) (c d : Nat) (w : World) (hf : s.flash.length = 4) (hp : ∀ b ∈ s.flash, b.pages.length = 4) (hm : ∀ b ∈ s.flash, most b < 1000000000000) (hd : s.disk.length = 6) (hF : Fl w A s.flash) (hD : Row w D (ints s.disk)) :
 Calls Tryz.prog 87 #[.agg #[.slice A 4 c, .slice D 6 d], .int .i64 a] w fun e w' => ∃ v, e = .returned v ∧ OwnS w' w.heap.size v (fill s a) ∧ Below w.heap.size w w' := by
 have HL := Lib.hid hf
 have HP4 := Lib.hid hp
 have HM := Lib.hid hm
 have hl4 : s.flash.length < 1000000000000 := by omega
 have HP := Lib.hid (show ∀ b ∈ s.flash, b.pages.length < 1000000000000 from fun b hb => by rw [hp b hb]; omega)
 have hin : Hid ((decide (1 ≤ a) && decide (a ≤ 6)) = kj a) := rfl
 have hnil : OwnS ((w.alloc (.cells #[.slice A 4 c, .slice D 6 d] 28)).alloc (.cells #[] 81)) w.heap.size (.slice (some ⟨w.heap.size + 1, 0, none⟩) 0 0) [] := by
  have := OwnS.nil (w.alloc (.cells #[.slice A 4 c, .slice D 6 d] 28)) w.heap.size (by simp)
  simp only [World.size_alloc] at this
  exact this
 have hfin : Hid (fill s a = if kj a = false ∨ 0 < (last s.flash a).seq then [] else wr s.flash 2 a (s.disk.getD (a - 1).toNat 0)) := rfl
 clear hf hp hm
 by_cases ha : kj a = true
 . have ha1 : 1 ≤ a ∧ a ≤ 6 := by unfold kj at ha; simpa using ha
   obtain ⟨ha1, ha2⟩ := ha1
   obtain ⟨i, rfl⟩ : ∃ i : Nat, a = i + 1 := ⟨(a - 1).toNat, by omega⟩
   have hi : i < 6 := by omega
   obtain ⟨v, hv⟩ := zd (l := s.disk) (k := i) (by omega)
   have hgd : s.disk.getD ((i : Int) + 1 - 1).toNat 0 = v := by rw [show ((i : Int) + 1 - 1).toNat = i by omega, List.getD_eq_getElem?_getD, hv]; rfl
   rw [hgd] at hfin
   have hn1 : ints s.disk ≠ [] := by
    intro e
    have := congrArg List.length e
    rw [yu, hd] at this
    simp at this
   obtain ⟨db, dO, rfl⟩ := hD.addr hn1
   have hi6 : (i : Int) < 6 := by omega
   have HV := Lib.hid hv
   clear hv hgd hn1 hd hnil
   go_enter Tryz.func87, Tryz.ntmps87
   go_wp2_with fail
   refine (qm _ _ _ _).mono ?_
   rintro e w1 ⟨rfl, rfl⟩
   rw [hin.out, ha]
   go_wp2_with fail
   refine (zd9 _ s.flash (i + 1) A c _ HL.out.symm hl4 HP.out (hF.alloc _)).mono ?_
   rintro e w1 ⟨rfl, hb⟩
   have hB : Below w.heap.size w w1 := Below.trans bw (hb.mono (by simp))
   have hz : w.heap.size < w1.heap.size := by have := hb.size; simp at this; omega
   obtain ⟨hc, hfz⟩ := jr hb
   have x0 : w1.cell? ⟨w.heap.size, 0, none⟩ = some (.slice A 4 c) := (hc _ _ (by simp)).trans (by simp)
   have x1 : w1.cell? ⟨w.heap.size, 1, none⟩ = some (.slice (some ⟨db, dO, none⟩) 6 d) := (hc _ _ (by simp)).trans (by simp)
   obtain ⟨hcv, _⟩ := (hD.below hB nl).int_ HV.out
   have hdb := ze hcv
   have hFz := hF.below hB nl
   clear hb hc hfz
   generalize last s.flash (i + 1) = x at *
   by_cases h1 : 0 < x.seq
   . have h3 : Hid (fill s (i + 1) = []) := by rw [Hid, hfin.out, if_pos (.inr h1)]
     go_wp2
     go_ret
     rw [h3.out]
     refine ⟨_, rfl, ?_, bw⟩
     have := OwnS.nil (w1.alloc (.cells #[.int .i64 x.kind, .int .i64 x.seq, .int .i64 x.addr, .int .i64 x.val] 64)) w.heap.size (by simp; omega)
     simp only [World.size_alloc] at this
     exact this
   . have h3 : Hid (fill s (i + 1) = wr s.flash 2 (i + 1) v) := by
      rw [Hid, hfin.out, if_neg (by intro h; rcases h with h | h; rw [ha] at h; cases h; exact h1 h)]
     have e1 : IntKind.i64.wrap ((i : Int) + 1 - 1) = i := by rw [show (i : Int) + 1 - 1 = i by omega]; exact IntWalk.i64_in _ (by omega)
     have e2 : IntKind.i64.wrap (i : Int) = i := IntWalk.i64_in _ (by omega)
     have e3 : (i : Int) + 1 - 1 = i := by omega
     have e4 : (0 : Int) ≤ i := by omega
     clear hfin
     go_wp2
     go_region_with (first | (go_at_call 38; with_reducible refine (Z1 s.flash 2 (i + 1) v A (some ⟨db, dO, none⟩) c 6 d _ HL.out HP4.out HM.out (Fl.drew' (hFz.alloc _))).mono ?_; rintro e w2 ⟨u, rfl, hO, hb2⟩))
     all_goals
      have hle : w.heap.size ≤ (w1.alloc (.cells #[.int .i64 x.kind, .int .i64 x.seq, .int .i64 x.addr, .int .i64 x.val] 64)).drew.heap.size := by show w.heap.size ≤ (w1.alloc _).heap.size; simp; omega
      have hB2 : Below w.heap.size w w2 := ((hB.alloc hB.size _).drew).trans (hb2.mono hle)
      clear hb2
      go_wp2
      go_ret
      rw [h3.out]
      exact ⟨_, rfl, hO.mono hle, hB2⟩
 . have ha' : kj a = false := by simpa using ha
   have h3 : Hid (fill s a = []) := by rw [Hid, hfin.out, if_pos (.inl ha')]
   go_enter Tryz.func87, Tryz.ntmps87
   go_wp2_with fail
   refine (qm _ _ _ _).mono ?_
   rintro e w1 ⟨rfl, rfl⟩
   rw [hin.out, ha']
   go_wp2
   go_ret
   rw [h3.out]
   exact ⟨_, rfl, hnil, bw⟩
end
section
open Go.RowKit Go.Maps
theorem Below.drewN' (B : Nat) (w : World) (n : Nat) : Below B w (w.drewN n) := ⟨rfl, rfl, rfl, Nat.le_refl _, fun _ _ => rfl⟩
theorem zew (A A' : Option Addr) (n c c' : Nat) (ps : List Pg) (w : World) (hn : n = ps.length) (hl : ps.length < 1000000000000) (hR : Row w A (pgs ps)) (hR' : Row w A' (pgs ps)) :
 Calls Tryz.prog 50 #[.slice A n c, .slice A' n c'] w fun e w' => e = .returned (.bool true) ∧ Below w.heap.size w w' := by
 subst hn
 go_enter Tryz.func50, Tryz.ntmps50
 go_wp2
 go_loopw [5] (fun i wr => ∃ (k : Nat), k ≤ ps.length ∧ i = .int .i64 k ∧ Below w.heap.size w wr) (fun i _ => ps.length - (intOf i).toNat)
 case atStart => exact ⟨0, by omega, rfl, Below.refl _ _⟩
 case round =>
  obtain ⟨k, hk, rfl, hb⟩ := hrel
  by_cases hlt : k < ps.length
  . obtain ⟨p, hp⟩ := zd hlt
    obtain ⟨b, o, rfl⟩ := hR.addr (kq (by rintro rfl; simp at hlt))
    obtain ⟨b', o', rfl⟩ := hR'.addr (kq (by rintro rfl; simp at hlt))
    have hRk := hR.below hb nl
    have hRk' := hR'.below hb nl
    obtain ⟨c0, c1, c2, c3, c4⟩ := hRk.pg hp
    obtain ⟨d0, d1, d2, d3, d4⟩ := hRk'.pg hp
    have hk1 : (k : Int) < ps.length := by omega
    have HP := Lib.hid hp
    clear hp
    go_wp2
    go_quiet (fail)
    have hb2 : Below w.heap.size w (wr.drewN nq) := Below.trans hb (Below.drewN' _ _ _)
    go_wp2
    go_roundw
    case rel => exact ⟨k + 1, by omega, by go_num, hb2⟩
    case measure => simp [intOf]; omega
  . obtain rfl : k = ps.length := by omega
    go_wp2
    go_ret
    exact ⟨rfl, hb⟩
theorem zex (A A' : Option Addr) (n m c c' : Nat) (f : List Bk) (w : World) (hn : n = f.length) (hm : m = f.length) (hl : f.length < 1000000000000) (hp : ∀ b ∈ f, b.pages.length < 1000000000000) (hF : Fl w A f) (hF' : Fl w A' f) :
 Calls Tryz.prog 28 #[.slice A n c, .slice A' m c'] w fun e w' => e = .returned (.bool true) ∧ Below w.heap.size w w' := by
 subst hn
 subst hm
 obtain ⟨hs, hF⟩ := hF
 obtain ⟨ks, hF'⟩ := hF'
 have HP := Lib.hid hp
 clear hp
 go_enter Tryz.func28, Tryz.ntmps28
 go_wp2
 go_loopw [5] (fun i wr => ∃ (k : Nat), k ≤ f.length ∧ i = .int .i64 k ∧ Below w.heap.size w wr) (fun i _ => f.length - (intOf i).toNat)
 case atStart => exact ⟨0, by omega, rfl, Below.refl _ _⟩
 case round =>
  obtain ⟨k, hk, rfl, hb⟩ := hrel
  by_cases hlt : k < f.length
  . obtain ⟨p, hp⟩ := zd hlt
    have hpl := HP.out p (List.mem_of_getElem? hp)
    obtain ⟨b, o, rfl⟩ := hF.addr (by rintro rfl; simp at hlt)
    obtain ⟨b', o', rfl⟩ := hF'.addr (by rintro rfl; simp at hlt)
    have hFk := hF.below hb nl
    have hFk' := hF'.below hb nl
    obtain ⟨⟨Ap, cp⟩, _, c0, c1, _, _, hRp, _⟩ := hFk.at_ hp
    obtain ⟨⟨Aq, cq⟩, _, d0, d1, _, _, hRq, _⟩ := hFk'.at_ hp
    have hk1 : (k : Int) < f.length := by omega
    dsimp only at *
    have hbb := ze c0
    have hbb' := ze d0
    clear hp
    go_wp2
    go_region_held3 (fun w' => w'.cell? ⟨b, o + k * 2, none⟩ = some (.slice Ap p.pages.length cp) ∧ w'.cell? ⟨b, o + k * 2 + 1, none⟩ = some (.int .i64 p.worn) ∧ w'.cell? ⟨b', o' + k * 2, none⟩ = some (.slice Aq p.pages.length cq) ∧ w'.cell? ⟨b', o' + k * 2 + 1, none⟩ = some (.int .i64 p.worn))
     (first | go_keep | trivial)
     (first | (go_at_call 50; refine (zew Ap Aq _ cp cq p.pages _ rfl hpl hRp.drew hRq.drew).mono ?_; rintro e w1 ⟨rfl, hb1⟩; replace hb1 := Xh hb1; have e0 := (hb1.cell (p := ⟨b, o + k * 2, none⟩) hbb).trans c0; have e1 := (hb1.cell (p := ⟨b, o + k * 2 + 1, none⟩) hbb).trans c1; have g0 := (hb1.cell (p := ⟨b', o' + k * 2, none⟩) hbb').trans d0; have g1 := (hb1.cell (p := ⟨b', o' + k * 2 + 1, none⟩) hbb').trans d1))
    have hB1 := hb.trans (hb1.mono hb.size)
    go_wp2
    go_roundw
    case rel => exact ⟨k + 1, by omega, by go_num, hB1⟩
    case measure => simp [intOf]; omega
  . obtain rfl : k = f.length := by omega
    go_wp2
    go_ret
    exact ⟨rfl, hb⟩
end
section
open Go.RowKit Go.Maps
end
section
open Go.RowKit Go.Maps
end
section
open Go.RowKit Go.Maps
theorem OFl.far {w w' : World} {lo hi lo' hi' : Nat} {A : Option Addr} {f : List Bk} (h : OFl w lo hi A f) (ha : Agr (fun b => lo' ≤ b ∧ b < hi') w w') (hd : hi ≤ lo' ∨ hi' ≤ lo) : OFl w' lo hi A f :=
 h.agr ha fun b h1 h2 h3 => by omega
end
section
open Go.RowKit Go.Maps
def OSt (w : World) (lo hi : Nat) (A : Option Addr) (f : List Bk) (D : Option Addr) (xs : List Int) : Prop :=
 ∃ hs, Bks w A f hs ∧ Apt lo hi A hs ∧ Row w D (ints xs) ∧ ∀ b, blk D b -> lo ≤ b ∧ b < hi ∧ ¬ blk A b ∧ ∀ (i : Nat) (x : Option Addr × Nat), hs[i]? = some x -> ¬ blk x.1 b
theorem OSt.keep {w w' : World} {lo hi : Nat} {A D : Option Addr} {f : List Bk} {xs : List Int} (h : OSt w lo hi A f D xs) (hk : ∀ b, lo ≤ b -> b < hi -> b < w.heap.size -> w'.heap[b]? = w.heap[b]?) : OSt w' lo hi A f D xs := by
 obtain ⟨hs, h1, h2, h3, h4⟩ := h
 refine ⟨hs, h1.keep fun b hb hl => ?_, h2, h3.keep fun b hb hl => hk b (h4 b hb).1 (h4 b hb).2.1 hl, h4⟩
 rcases hb with hb | ⟨x, hx, hb⟩
 . have := h2.top b hb; exact hk b this.1 this.2 hl
 . obtain ⟨i, hi'⟩ := List.getElem?_of_mem hx
   have := h2.in_ i x b hi' hb; exact hk b this.1 this.2.1 hl
theorem OSt.below {w w' : World} {lo hi B : Nat} {A D : Option Addr} {f : List Bk} {xs : List Int} (h : OSt w lo hi A f D xs) (hb : Below B w w') (hB : w.heap.size ≤ B) : OSt w' lo hi A f D xs := h.keep fun b _ _ hl => hb.block b (by omega)
theorem OSt.far {w w' : World} {lo hi lo' hi' : Nat} {A D : Option Addr} {f : List Bk} {xs : List Int} (h : OSt w lo hi A f D xs) (ha : Agr (fun b => lo' ≤ b ∧ b < hi') w w') (hd : hi ≤ lo' ∨ hi' ≤ lo) : OSt w' lo hi A f D xs :=
 h.keep fun b h1 h2 hl => ha.block b hl (by omega)
theorem OSt.ofl {w : World} {lo hi : Nat} {A D : Option Addr} {f : List Bk} {xs : List Int} (h : OSt w lo hi A f D xs) : OFl w lo hi A f := by obtain ⟨hs, h1, h2, _⟩ := h; exact ⟨hs, h1, h2⟩
theorem OSt.disk {w : World} {lo hi : Nat} {A D : Option Addr} {f : List Bk} {xs : List Int} (h : OSt w lo hi A f D xs) : Row w D (ints xs) := by obtain ⟨hs, _, _, h3, _⟩ := h; exact h3
theorem OSt.mono {w : World} {lo hi lo' hi' : Nat} {A D : Option Addr} {f : List Bk} {xs : List Int} (h : OSt w lo hi A f D xs) (h1 : lo' ≤ lo) (h2 : hi ≤ hi') : OSt w lo' hi' A f D xs := by
 obtain ⟨hs, a, b, c, d⟩ := h
 exact ⟨hs, a, b.mono h1 h2, c, fun x hx => by have := d x hx; exact ⟨by omega, by omega, this.2.2⟩⟩
theorem OSt.mk' {w : World} {lo hi lf hf d o : Nat} {A : Option Addr} {f : List Bk} {xs : List Int} (h : OFl w lf hf A f) (hr : Row w (some ⟨d, o, none⟩) (ints xs)) (h1 : lo ≤ lf) (h2 : hf ≤ hi) (h3 : lo ≤ d) (h4 : d < hi) (h5 : d < lf ∨ hf ≤ d) : OSt w lo hi A f (some ⟨d, o, none⟩) xs := by
 obtain ⟨hs, a, b⟩ := h
 refine ⟨hs, a, b.mono h1 h2, hr, fun x hx => ?_⟩
 rw [zg] at hx
 subst hx
 exact ⟨h3, h4, fun e => by have := b.top d e; omega, fun i y hy e => by have := b.in_ i y d hy e; omega⟩
theorem Q4 (w : World) : (Instr.makeSlice 26 (.int .i64 6) (.int .i64 6)).run Tryz.prog w = .ok (.slice (some ⟨w.heap.size, 0, none⟩) 6 6) (w.alloc (.cells #[.int .i64 0, .int .i64 0, .int .i64 0, .int .i64 0, .int .i64 0, .int .i64 0] 3)) := by kernel_rfl
def Ye : List Int := [0, 0, 0, 0, 0, 0]
def zfu (w : World) (e : Ending) (w' : World) : Prop :=
 ∃ A c D, e = .returned (.agg #[.slice A 4 c, .slice D 6 6]) ∧ 4 ≤ c ∧ OSt w' w.heap.size w'.heap.size A zx D Ye ∧ Below w.heap.size w w'
theorem Jd (w : World) : Calls Tryz.prog 26 #[] w (zfu w) := by
 have hmk := Q4
 go_enter Tryz.func26, Tryz.ntmps26
 go_wp2_with fail
 go_region_with (first | (go_at_call 46; refine (zct _).mono ?_; rintro e w1 ⟨g, c, rfl, hc, hO, hb⟩; have r0 : w1.cell? ⟨w.heap.size, 0, none⟩ = some (.slice none 0 0) := (hb.cell (p := ⟨w.heap.size, 0, none⟩) (by simp <;> omega)).trans (by simp); have r1 : w1.cell? ⟨w.heap.size, 1, none⟩ = some (.slice none 0 0) := (hb.cell (p := ⟨w.heap.size, 1, none⟩) (by simp <;> omega)).trans (by simp); have r2 : w1.frozen? ⟨w.heap.size, 0, none⟩ = false := (hb.frozen (p := ⟨w.heap.size, 0, none⟩) (by simp <;> omega)).trans (by simp); have r3 : w1.frozen? ⟨w.heap.size, 1, none⟩ = false := (hb.frozen (p := ⟨w.heap.size, 1, none⟩) (by simp <;> omega)).trans (by simp); have hz : w.heap.size < w1.heap.size := by have := hb.size; simp at this; omega))
 . -- the flash first
   have hB : Below w.heap.size w w1 := Below.trans bw (hb.mono (by simp <;> omega))
   have hO2 : OFl w1 (w.heap.size + 1) w1.heap.size (some ⟨g, 0, none⟩) zx := hO.mono (by simp <;> omega) nl
   clear hO hb
   go_wp2
   refine bodyPost_ret (v := .agg #[.slice (some ⟨g, 0, none⟩) 4 c, .slice (some ⟨w1.heap.size, 0, none⟩) 6 6]) (by simp [results, Tryz.results26, go_sem, hz, r0, r1]) rfl ⟨_, _, _, rfl, hc, ?_, ?_⟩
   . refine OSt.mk' (lf := w.heap.size + 1) (hf := w1.heap.size) (hO2.keep fun d h1 h2 hl => ?_) ?_ (by omega) (by simp) (by omega) (by simp) (.inr nl)
     . rw [Below.heap_alloc _ _ _ (by simpa using hl), Below.heap_setCell _ _ _ _ (by simp; omega), Below.heap_setCell _ _ _ _ (by simp; omega)]
     . have := Row.new ((w1.setCell ⟨w.heap.size, 0, none⟩ (.slice (some ⟨g, 0, none⟩) 4 c)).setCell ⟨w.heap.size, 1, none⟩ (.slice (some ⟨w1.heap.size, 0, none⟩) 6 6)) #[.int .i64 0, .int .i64 0, .int .i64 0, .int .i64 0, .int .i64 0, .int .i64 0] 3
       simp only [World.size_setCell] at this
       exact this
   . exact bw
 . -- the numbers first
   have hB : Below w.heap.size w w1 := Below.trans bw (hb.mono (by simp <;> omega))
   have hO2 : OFl w1 (w.heap.size + 1 + 1) w1.heap.size (some ⟨g, 0, none⟩) zx := hO.mono (by simp <;> omega) nl
   have hD : Row w1 (some ⟨w.heap.size + 1, 0, none⟩) (ints Ye) := by
    have := Row.new (w.alloc (.cells #[.slice none 0 0, .slice none 0 0] 28)) #[.int .i64 0, .int .i64 0, .int .i64 0, .int .i64 0, .int .i64 0, .int .i64 0] 3
    simp only [World.size_alloc] at this
    exact (Row.drew this).below hb nl
   have hz2 : w.heap.size + 1 < w1.heap.size := by have := hb.size; simp at this; omega
   clear hO hb
   go_wp2
   refine bodyPost_ret (v := .agg #[.slice (some ⟨g, 0, none⟩) 4 c, .slice (some ⟨w.heap.size + 1, 0, none⟩) 6 6]) (by simp [results, Tryz.results26, go_sem, hz, r0, r1]) rfl ⟨_, _, _, rfl, hc, ?_, ?_⟩
   . refine OSt.mk' (lf := w.heap.size + 1 + 1) (hf := w1.heap.size) (hO2.keep fun d h1 h2 hl => ?_) (hD.keep fun d hd hl => ?_) (by omega) (by simp) (by omega) (by simpa using hz2) (.inl (by omega))
     . rw [Below.heap_setCell _ _ _ _ (by simp; omega), Below.heap_setCell _ _ _ _ (by simp; omega)]
     . rw [zg] at hd
       rw [Below.heap_setCell _ _ _ _ (by simp; omega), Below.heap_setCell _ _ _ _ (by simp; omega)]
   . exact bw
theorem zda (w : World) : Calls Tryz.prog 24 #[] w (zfu w) := by
 have hmk := Q4
 go_enter Tryz.func24, Tryz.ntmps24
 go_wp2_with fail
 go_region_with (first | (go_at_call 44; refine (zdc _).mono ?_; rintro e w1 ⟨g, rfl, hO, hb⟩; have r0 : w1.cell? ⟨w.heap.size, 0, none⟩ = some (.slice none 0 0) := (hb.cell (p := ⟨w.heap.size, 0, none⟩) (by simp <;> omega)).trans (by simp); have r1 : w1.cell? ⟨w.heap.size, 1, none⟩ = some (.slice none 0 0) := (hb.cell (p := ⟨w.heap.size, 1, none⟩) (by simp <;> omega)).trans (by simp); have r2 : w1.frozen? ⟨w.heap.size, 0, none⟩ = false := (hb.frozen (p := ⟨w.heap.size, 0, none⟩) (by simp <;> omega)).trans (by simp); have r3 : w1.frozen? ⟨w.heap.size, 1, none⟩ = false := (hb.frozen (p := ⟨w.heap.size, 1, none⟩) (by simp <;> omega)).trans (by simp); have hz : w.heap.size < w1.heap.size := by have := hb.size; simp at this; omega))
 . -- the flash first
   have hB : Below w.heap.size w w1 := Below.trans bw (hb.mono (by simp <;> omega))
   have hO2 : OFl w1 (w.heap.size + 1) w1.heap.size (some ⟨g, 0, none⟩) zx := hO.mono (by simp <;> omega) nl
   clear hO hb
   go_wp2
   refine bodyPost_ret (v := .agg #[.slice (some ⟨g, 0, none⟩) 4 4, .slice (some ⟨w1.heap.size, 0, none⟩) 6 6]) (by simp [results, Tryz.results24, go_sem, hz, r0, r1]) rfl ⟨_, _, _, rfl, Nat.le_refl _, ?_, ?_⟩
   . refine OSt.mk' (lf := w.heap.size + 1) (hf := w1.heap.size) (hO2.keep fun d h1 h2 hl => ?_) ?_ (by omega) (by simp) (by omega) (by simp) (.inr nl)
     . rw [Below.heap_alloc _ _ _ (by simpa using hl), Below.heap_setCell _ _ _ _ (by simp; omega), Below.heap_setCell _ _ _ _ (by simp; omega)]
     . have := Row.new ((w1.setCell ⟨w.heap.size, 0, none⟩ (.slice (some ⟨g, 0, none⟩) 4 4)).setCell ⟨w.heap.size, 1, none⟩ (.slice (some ⟨w1.heap.size, 0, none⟩) 6 6)) #[.int .i64 0, .int .i64 0, .int .i64 0, .int .i64 0, .int .i64 0, .int .i64 0] 3
       simp only [World.size_setCell] at this
       exact this
   . exact bw
 . -- the numbers first
   have hB : Below w.heap.size w w1 := Below.trans bw (hb.mono (by simp <;> omega))
   have hO2 : OFl w1 (w.heap.size + 1 + 1) w1.heap.size (some ⟨g, 0, none⟩) zx := hO.mono (by simp <;> omega) nl
   have hD : Row w1 (some ⟨w.heap.size + 1, 0, none⟩) (ints Ye) := by
    have := Row.new (w.alloc (.cells #[.slice none 0 0, .slice none 0 0] 28)) #[.int .i64 0, .int .i64 0, .int .i64 0, .int .i64 0, .int .i64 0, .int .i64 0] 3
    simp only [World.size_alloc] at this
    exact (Row.drew this).below hb nl
   have hz2 : w.heap.size + 1 < w1.heap.size := by have := hb.size; simp at this; omega
   clear hO hb
   go_wp2
   refine bodyPost_ret (v := .agg #[.slice (some ⟨g, 0, none⟩) 4 4, .slice (some ⟨w.heap.size + 1, 0, none⟩) 6 6]) (by simp [results, Tryz.results24, go_sem, hz, r0, r1]) rfl ⟨_, _, _, rfl, Nat.le_refl _, ?_, ?_⟩
   . refine OSt.mk' (lf := w.heap.size + 1 + 1) (hf := w1.heap.size) (hO2.keep fun d h1 h2 hl => ?_) (hD.keep fun d hd hl => ?_) (by omega) (by simp) (by omega) (by simpa using hz2) (.inl (by omega))
     . rw [Below.heap_setCell _ _ _ _ (by simp; omega), Below.heap_setCell _ _ _ _ (by simp; omega)]
     . rw [zg] at hd
       rw [Below.heap_setCell _ _ _ _ (by simp; omega), Below.heap_setCell _ _ _ _ (by simp; omega)]
   . exact bw
end
section
open Go.RowKit Go.Maps
theorem zcq (s : St) (e : Ev) (A D : Option Addr) (c d : Nat) (w : World) (hf : s.flash.length = 4) (hp : ∀ b ∈ s.flash, b.pages.length = 4) (hm : ∀ b ∈ s.flash, most b < 1000000000000) (hd : s.disk.length = 6) (hF : Fl w A s.flash) (hD : Row w D (ints s.disk)) :
 Calls Tryz.prog 49 #[.agg #[.slice A 4 c, .slice D 6 d], .agg #[.int .i64 e.kind, .int .i64 e.a, .int .i64 e.b, .int .i64 e.c, .bool e.torn]] w fun r w' => ∃ v, r = .returned v ∧ OwnS w' w.heap.size v (zz s e) ∧ Below w.heap.size w w' := by
 obtain ⟨k, a, b, cc, t⟩ := e
 dsimp only
 have HL := Lib.hid hf
 have HP4 := Lib.hid hp
 have HM := Lib.hid hm
 have HD := Lib.hid hd
 have hB : Below w.heap.size w ((w.alloc (.cells #[.slice A 4 c, .slice D 6 d] 28)).alloc (.cells #[.int .i64 k, .int .i64 a, .int .i64 b, .int .i64 cc, .bool t] 33)) := bw
 have hFz := (hF.alloc (.cells #[.slice A 4 c, .slice D 6 d] 28)).alloc (.cells #[.int .i64 k, .int .i64 a, .int .i64 b, .int .i64 cc, .bool t] 33)
 have hDz := (hD.alloc (.cells #[.slice A 4 c, .slice D 6 d] 28)).alloc (.cells #[.int .i64 k, .int .i64 a, .int .i64 b, .int .i64 cc, .bool t] 33)
 have hfin : Hid (zz s ⟨k, a, b, cc, t⟩ = if k = 1 then wr s.flash 1 a b else if k = 2 then kg s a else if k = 3 then fill s a else []) := rfl
 clear hf hp hm hd
 by_cases h1 : k = 1
 . subst h1
   have h3 : Hid (zz s ⟨1, a, b, cc, t⟩ = wr s.flash 1 a b) := by rw [Hid, hfin.out, if_pos rfl]
   go_enter Tryz.func49, Tryz.ntmps49
   go_wp2_with fail
   refine (Z1 s.flash 1 a b A D c 6 d _ HL.out HP4.out HM.out hFz).mono ?_
   rintro e w1 ⟨v, rfl, hO, hb⟩
   go_wp2
   go_ret
   rw [h3.out]
   exact ⟨_, rfl, hO.mono (by simp; omega), hB.trans (hb.mono (by simp; omega))⟩
 . by_cases h2 : k = 2
   . subst h2
     have h3 : Hid (zz s ⟨2, a, b, cc, t⟩ = kg s a) := by rw [Hid, hfin.out, if_neg h1, if_pos rfl]
     go_enter Tryz.func49, Tryz.ntmps49
     go_wp2_with fail
     refine (Jc s a A D c d _ HL.out HP4.out HM.out HD.out hFz hDz).mono ?_
     rintro e w1 ⟨v, rfl, hO, hb⟩
     go_wp2
     go_ret
     rw [h3.out]
     exact ⟨_, rfl, hO.mono (by simp; omega), hB.trans (hb.mono (by simp; omega))⟩
   . by_cases h4 : k = 3
     . subst h4
       have h3 : Hid (zz s ⟨3, a, b, cc, t⟩ = fill s a) := by rw [Hid, hfin.out, if_neg h1, if_neg h2, if_pos rfl]
       go_enter Tryz.func49, Tryz.ntmps49
       go_wp2_with fail
       refine (zec s a A D c d _ HL.out HP4.out HM.out HD.out hFz hDz).mono ?_
       rintro e w1 ⟨v, rfl, hO, hb⟩
       go_wp2
       go_ret
       rw [h3.out]
       exact ⟨_, rfl, hO.mono (by simp; omega), hB.trans (hb.mono (by simp; omega))⟩
     . have h3 : Hid (zz s ⟨k, a, b, cc, t⟩ = []) := by rw [Hid, hfin.out, if_neg h1, if_neg h2, if_neg h4]
       have e1 : (k == 1) = false := by simp [h1]
       have e2 : (k == 2) = false := by simp [h2]
       have e3 : (k == 3) = false := by simp [h4]
       have hO := OwnS.nil ((w.alloc (.cells #[.slice A 4 c, .slice D 6 d] 28)).alloc (.cells #[.int .i64 k, .int .i64 a, .int .i64 b, .int .i64 cc, .bool t] 33)) w.heap.size (by simp; omega)
       simp only [World.size_alloc] at hO
       go_enter Tryz.func49, Tryz.ntmps49
       go_wp2
       go_ret
       rw [h3.out]
       exact ⟨_, rfl, hO, hB.alloc hB.size _⟩
end
section
open Go.RowKit Go.Maps
theorem OSt.alloc' {w : World} {lo hi : Nat} {A D : Option Addr} {f : List Bk} {xs : List Int} (h : OSt w lo hi A f D xs) (o : Obj) : OSt (w.alloc o) lo hi A f D xs := h.below (B := w.heap.size) ((Below.refl _ _).alloc nl _) nl
theorem zj2 {w : World} {a b c : Obj} {i : Nat} {u : Option Value} (h : (w.alloc a).cell? ⟨w.heap.size, i, none⟩ = u) : (((w.alloc a).alloc b).alloc c).cell? ⟨w.heap.size, i, none⟩ = u :=
 ((((Below.refl (w.heap.size + 1) (w.alloc a)).alloc (by simp) b).alloc (by simp) c).cell (p := ⟨w.heap.size, i, none⟩) (by show w.heap.size < _; omega)).trans h
theorem fz3 {w : World} {a b c : Obj} {i : Nat} {u : Bool} (h : (w.alloc a).frozen? ⟨w.heap.size, i, none⟩ = u) : (((w.alloc a).alloc b).alloc c).frozen? ⟨w.heap.size, i, none⟩ = u :=
 ((((Below.refl (w.heap.size + 1) (w.alloc a)).alloc (by simp) b).alloc (by simp) c).frozen (p := ⟨w.heap.size, i, none⟩) (by show w.heap.size < _; omega)).trans h
theorem top3 (w : World) (a b : Obj) (cs : Array Value) (t : TypeId) : Row (((w.alloc a).alloc b).alloc (.cells cs t)) (some ⟨w.heap.size + 1 + 1, 0, none⟩) cs.toList := by
 have := Row.new ((w.alloc a).alloc b) cs t
 simp only [World.size_alloc] at this
 exact this
theorem Row.at0 {w : World} {b : Nat} {vs : List Value} {j : Nat} {u : Value} (h : Row w (some ⟨b, 0, none⟩) vs) (hj : vs[j]? = some u) : w.cell? ⟨b, j, none⟩ = some u ∧ w.frozen? ⟨b, j, none⟩ = false := by
 obtain ⟨b', o', he, hc⟩ := h (by rintro rfl; simp at hj)
 cases he
 have := hc j u hj
 rwa [Nat.zero_add] at this
theorem zo6 {xs : List Int} (h : xs.length = 6) : ints xs ≠ [] := by
 intro e
 have := congrArg List.length e
 rw [yu, h] at this
 simp at this
theorem zbm (s : St) (x : Sp) (torn : Bool) (A D : Option Addr) (c d lo hi : Nat) (w : World) (hs : xy s) (hx : Xn x) (hhi : hi ≤ w.heap.size) (hO : OSt w lo hi A s.flash D s.disk) :
 Calls Tryz.prog 86 #[.agg #[.slice A 4 c, .slice D 6 d], .agg #[.int .i64 x.kind, .int .i64 x.addr, .int .i64 x.val, .int .i64 x.block, .int .i64 x.rc.kind, .int .i64 x.rc.seq, .int .i64 x.rc.addr, .int .i64 x.rc.val], .bool torn] w fun r w' =>
  r = .returned (.agg #[.slice A 4 c, .slice D 6 d]) ∧ OSt w' lo hi A (zr s x torn).flash D (zr s x torn).disk ∧ Agr (fun b => lo ≤ b ∧ b < hi) w w' := by
 obtain ⟨k, a, v, b, rc⟩ := x
 dsimp only
 have hfin : Hid (zr s ⟨k, a, v, b, rc⟩ torn = if k = 1 then (if torn then s else { s with disk := s.disk.set (a - 1).toNat v }) else if k = 2 then { s with flash := (j9 s.flash b.toNat torn).1 } else if k = 3 then { s with flash := (xv s.flash b.toNat rc torn).1 } else s) := rfl
 obtain ⟨hsf, hsd, hsv⟩ := hs
 obtain ⟨hx1, hx2, hx3⟩ := hx
 dsimp only at hx1 hx2 hx3
 have hOS := Lib.hid hO
 obtain ⟨hs, hBk, hApt, hR, hdj⟩ := hO
 have HDJ := Lib.hid hdj
 obtain ⟨db, dO, rfl⟩ := hR.addr (zo6 hsd)
 have hdb := HDJ.out db (zg.2 rfl)
 by_cases h1 : k = 1
 . subst h1
   obtain ⟨ha1, ha2, hv1, hv2⟩ := hx1 rfl
   obtain ⟨i, rfl⟩ : ∃ i : Nat, a = i + 1 := ⟨(a - 1).toNat, by omega⟩
   have hi6 : i < 6 := by omega
   have hi6' : (i : Int) < 6 := by omega
   cases torn
   . have h3 : Hid (zr s ⟨1, i + 1, v, b, rc⟩ false = { s with disk := s.disk.set i v }) := by rw [Hid, hfin.out, if_pos rfl, show ((i : Int) + 1 - 1).toNat = i by omega]; rfl
     obtain ⟨u, hu⟩ := zd (l := s.disk) (k := i) (by omega)
     obtain ⟨c0, f0⟩ := hR.int_ hu
     have hlt := ze c0
     have hW := z8 c0 (.int .i64 v)
     have hR2 : Row (w.setCell ⟨db, dO + i, none⟩ (.int .i64 v)) (some ⟨db, dO, none⟩) (ints (s.disk.set i v)) := by
      rw [zh4]
      exact hW.row hR (by rw [yu]; simp; omega)
     have hO2 : OSt (w.setCell ⟨db, dO + i, none⟩ (.int .i64 v)) lo hi A s.flash (some ⟨db, dO, none⟩) (s.disk.set i v) :=
      ⟨hs, hBk.keep fun y hy hl => hW.agr.block y hl (by
       rintro rfl
       rcases hy with hy | ⟨z, hz, hy⟩
       . exact hdb.2.2.1 hy
       . obtain ⟨j, hj⟩ := List.getElem?_of_mem hz
         exact hdb.2.2.2 j z hj hy), hApt, hR2, HDJ.out⟩
     have hA2 : Agr (fun y => lo ≤ y ∧ y < hi) w (w.setCell ⟨db, dO + i, none⟩ (.int .i64 v)) := hW.agr.mono fun y e => by rw [e]; exact ⟨hdb.1, hdb.2.1⟩
     have e1 : IntKind.i64.wrap ((i : Int) + 1 - 1) = i := by rw [show (i : Int) + 1 - 1 = i by omega]; exact IntWalk.i64_in _ (by omega)
     have e2 : IntKind.i64.wrap (i : Int) = i := IntWalk.i64_in _ (by omega)
     have HU := Lib.hid hu
     have m1 : db < w.heap.size + 1 := by omega
     have m2 : db < w.heap.size + 1 + 1 := by omega
     have n0 : db ≠ w.heap.size := by omega
     have n0' : w.heap.size ≠ db := by omega
     have n1 : db ≠ w.heap.size + 1 := by omega
     have n1' : w.heap.size + 1 ≠ db := by omega
     have n2 : db ≠ w.heap.size + 1 + 1 := by omega
     have n2' : w.heap.size + 1 + 1 ≠ db := by omega
     clear hu hW hsf hsd hsv hfin hdj
     go_enter Tryz.func86, Tryz.ntmps86
     go_wp2
     refine bodyPost_ret (v := .agg #[.slice A 4 c, .slice (some ⟨db, dO, none⟩) 6 d]) (by simp [results, Tryz.results86, go_sem]) rfl ⟨rfl, ?_, ?_⟩
     . rw [h3.out]; exact ((hO2.alloc' _).alloc' _).alloc' _
     . exact ((hA2.alloc _).alloc _).alloc _
   . have h3 : Hid (zr s ⟨1, i + 1, v, b, rc⟩ true = s) := by rw [Hid, hfin.out, if_pos rfl]; rfl
     clear hsf hsd hsv hfin hdj
     go_enter Tryz.func86, Tryz.ntmps86
     go_wp2
     refine bodyPost_ret (v := .agg #[.slice A 4 c, .slice (some ⟨db, dO, none⟩) 6 d]) (by simp [results, Tryz.results86, go_sem]) rfl ⟨rfl, ?_, ?_⟩
     . rw [h3.out]; exact ((hOS.out.alloc' _).alloc' _).alloc' _
     . exact (((Agr.refl _ _).alloc _).alloc _).alloc _
 . have hi4s : ∀ y ∈ s.flash, y.pages.length = 4 ∧ 0 ≤ y.worn ∧ y.worn ≤ 200 := fun y hy => ⟨(hsf.2 y hy).1, (hsf.2 y hy).2.1, (hsf.2 y hy).2.2.1⟩
   have hi4p : ∀ y ∈ s.flash, y.pages.length = 4 := fun y hy => (hsf.2 y hy).1
   have HS4 := Lib.hid hi4s
   have HP4 := Lib.hid hi4p
   clear hi4s hi4p
   by_cases h2 : k = 2
   . subst h2
     have hb := hx2 (.inl rfl)
     obtain ⟨hb1, hb2⟩ := hb
     obtain ⟨i, rfl⟩ := Int.eq_ofNat_of_zero_le hb1
     have hi4 : i < 4 := by omega
     obtain ⟨g, o, rfl⟩ := hBk.addr (by intro e; have := hsf.1; rw [e] at this; simp at this)
     have h3 : Hid (zr s ⟨2, a, v, i, rc⟩ torn = { s with flash := (j9 s.flash i torn).1 }) := by
      rw [Hid, hfin.out, if_neg (by omega), if_pos rfl, Int.toNat_natCast]
     obtain ⟨W, hW⟩ : ∃ W, W = ((w.alloc (.cells #[.slice (some ⟨g, o, none⟩) 4 c, .slice (some ⟨db, dO, none⟩) 6 d] 28)).alloc (.cells #[.int .i64 2, .int .i64 a, .int .i64 v, .int .i64 i, .int .i64 rc.kind, .int .i64 rc.seq, .int .i64 rc.addr, .int .i64 rc.val] 81)).alloc (.cells #[.slice none 0 0, .slice none 0 0] 28) := ⟨_, rfl⟩
     have hBkW : Bks W (some ⟨g, o, none⟩) s.flash hs := by rw [hW]; exact ((hBk.alloc _).alloc _).alloc _
     have hRW : Row W (some ⟨db, dO, none⟩) (ints s.disk) := by rw [hW]; exact ((hR.alloc _).alloc _).alloc _
     have hAW : Agr (fun y => lo ≤ y ∧ y < hi) w W := by rw [hW]; exact (((Agr.refl _ _).alloc _).alloc _).alloc _
     have b0 : W.cell? ⟨w.heap.size, 0, none⟩ = some (.slice (some ⟨g, o, none⟩) 4 c) := by rw [hW]; exact zj2 (by simp)
     have b1 : W.cell? ⟨w.heap.size, 1, none⟩ = some (.slice (some ⟨db, dO, none⟩) 6 d) := by rw [hW]; exact zj2 (by simp)
     have b2 : W.frozen? ⟨w.heap.size, 0, none⟩ = false := by rw [hW]; exact fz3 (by simp)
     have q0 : W.cell? ⟨w.heap.size + 1 + 1, 0, none⟩ = some (.slice none 0 0) := by rw [hW]; exact ((top3 w _ _ #[.slice none 0 0, .slice none 0 0] 28).at0 (j := 0) rfl).1
     have q1 : W.cell? ⟨w.heap.size + 1 + 1, 1, none⟩ = some (.slice none 0 0) := by rw [hW]; exact ((top3 w _ _ #[.slice none 0 0, .slice none 0 0] 28).at0 (j := 1) rfl).1
     have q2 : W.frozen? ⟨w.heap.size + 1 + 1, 0, none⟩ = false := by rw [hW]; exact ((top3 w _ _ #[.slice none 0 0, .slice none 0 0] 28).at0 (j := 0) rfl).2
     have q3 : W.frozen? ⟨w.heap.size + 1 + 1, 1, none⟩ = false := by rw [hW]; exact ((top3 w _ _ #[.slice none 0 0, .slice none 0 0] 28).at0 (j := 1) rfl).2
     have hWs : W.heap.size = w.heap.size + 1 + 1 + 1 := by rw [hW]; simp
     have HW := Lib.hid hW
     have HSF := Lib.hid hsf
     clear hsf hsd hsv hfin hdj hW
     go_enter Tryz.func86, Tryz.ntmps86
     go_wp2_with fail
     rw [← HW.out]
     refine (zea s.flash i lo hi g o c torn _ HSF.out.1 HS4.out hi4 hs hBkW hApt).mono ?_
     rintro e w1 ⟨rfl, hBk1, hA1⟩
     have hnot : ∀ j, w.heap.size ≤ j -> ¬ fblk (some ⟨g, o, none⟩) hs j := fun j hj h => by have := hApt.fblk h; omega
     replace b0 := (hA1.cell (by omega) (hnot _ (by omega)) 0).trans b0
     replace b1 := (hA1.cell (by omega) (hnot _ (by omega)) 1).trans b1
     replace b2 := (hA1.fz (by omega) (hnot _ (by omega)) 0).trans b2
     replace q0 := (hA1.cell (by omega) (hnot _ (by omega)) 0).trans q0
     replace q1 := (hA1.cell (by omega) (hnot _ (by omega)) 1).trans q1
     replace q2 := (hA1.fz (by omega) (hnot _ (by omega)) 0).trans q2
     replace q3 := (hA1.fz (by omega) (hnot _ (by omega)) 1).trans q3
     have hR1 : Row w1 (some ⟨db, dO, none⟩) (ints s.disk) := hRW.agr hA1 fun y hy hS => by
      rcases hS with h | ⟨j, z, hz, h⟩
      . exact (HDJ.out y hy).2.2.1 h
      . exact (HDJ.out y hy).2.2.2 j z hz h
     have hO1 : OSt w1 lo hi (some ⟨g, o, none⟩) (j9 s.flash i torn).1 (some ⟨db, dO, none⟩) s.disk := ⟨hs, hBk1, hApt, hR1, HDJ.out⟩
     have hA2 : Agr (fun y => lo ≤ y ∧ y < hi) w w1 := hAW.trans hA1 fun y _ hy => hApt.fblk hy
     have hs1 := hA1.size
     clear hA1 hBk1 hR1 hRW hBkW hAW hnot
     go_wp2
     refine bodyPost_ret (v := .agg #[.slice (some ⟨g, o, none⟩) 4 c, .slice (some ⟨db, dO, none⟩) 6 d]) (by simp [results, Tryz.results86, go_sem, b0, b1, q0, q1]) rfl ⟨rfl, ?_, ?_⟩
     . rw [h3.out]
       have hbb : Below w.heap.size w1 (((w1.setCell ⟨w.heap.size, 0, none⟩ (.slice (some ⟨g, o, none⟩) 4 c)).setCell ⟨w.heap.size + 1 + 1, 0, none⟩ (.slice (some ⟨g, o, none⟩) 4 c)).setCell ⟨w.heap.size + 1 + 1, 1, none⟩ (.slice (some ⟨db, dO, none⟩) 6 d)) := bw
       exact hO1.keep fun y _ h2 _ => hbb.block y (by omega)
     . exact ((hA2.setCell (.inl (by simp)) _).setCell (.inl (by show w.heap.size ≤ w.heap.size + 1 + 1; omega)) _).setCell (.inl (by show w.heap.size ≤ w.heap.size + 1 + 1; omega)) _
   . by_cases h4 : k = 3
     . subst h4
       have hb := hx2 (.inr rfl)
       obtain ⟨hb1, hb2⟩ := hb
       obtain ⟨i, rfl⟩ := Int.eq_ofNat_of_zero_le hb1
       have hi4 : i < 4 := by omega
       obtain ⟨g, o, rfl⟩ := hBk.addr (by intro e; have := hsf.1; rw [e] at this; simp at this)
       have h3 : Hid (zr s ⟨3, a, v, i, rc⟩ torn = { s with flash := (xv s.flash i rc torn).1 }) := by
        rw [Hid, hfin.out, if_neg (by omega), if_neg (by omega), if_pos rfl, Int.toNat_natCast]
       obtain ⟨W, hW⟩ : ∃ W, W = ((w.alloc (.cells #[.slice (some ⟨g, o, none⟩) 4 c, .slice (some ⟨db, dO, none⟩) 6 d] 28)).alloc (.cells #[.int .i64 3, .int .i64 a, .int .i64 v, .int .i64 i, .int .i64 rc.kind, .int .i64 rc.seq, .int .i64 rc.addr, .int .i64 rc.val] 81)).alloc (.cells #[.slice none 0 0, .slice none 0 0] 28) := ⟨_, rfl⟩
       have hBkW : Bks W (some ⟨g, o, none⟩) s.flash hs := by rw [hW]; exact ((hBk.alloc _).alloc _).alloc _
       have hRW : Row W (some ⟨db, dO, none⟩) (ints s.disk) := by rw [hW]; exact ((hR.alloc _).alloc _).alloc _
       have hAW : Agr (fun y => lo ≤ y ∧ y < hi) w W := by rw [hW]; exact (((Agr.refl _ _).alloc _).alloc _).alloc _
       have b0 : W.cell? ⟨w.heap.size, 0, none⟩ = some (.slice (some ⟨g, o, none⟩) 4 c) := by rw [hW]; exact zj2 (by simp)
       have b1 : W.cell? ⟨w.heap.size, 1, none⟩ = some (.slice (some ⟨db, dO, none⟩) 6 d) := by rw [hW]; exact zj2 (by simp)
       have b2 : W.frozen? ⟨w.heap.size, 0, none⟩ = false := by rw [hW]; exact fz3 (by simp)
       have q0 : W.cell? ⟨w.heap.size + 1 + 1, 0, none⟩ = some (.slice none 0 0) := by rw [hW]; exact ((top3 w _ _ #[.slice none 0 0, .slice none 0 0] 28).at0 (j := 0) rfl).1
       have q1 : W.cell? ⟨w.heap.size + 1 + 1, 1, none⟩ = some (.slice none 0 0) := by rw [hW]; exact ((top3 w _ _ #[.slice none 0 0, .slice none 0 0] 28).at0 (j := 1) rfl).1
       have q2 : W.frozen? ⟨w.heap.size + 1 + 1, 0, none⟩ = false := by rw [hW]; exact ((top3 w _ _ #[.slice none 0 0, .slice none 0 0] 28).at0 (j := 0) rfl).2
       have q3 : W.frozen? ⟨w.heap.size + 1 + 1, 1, none⟩ = false := by rw [hW]; exact ((top3 w _ _ #[.slice none 0 0, .slice none 0 0] 28).at0 (j := 1) rfl).2
       have hWs : W.heap.size = w.heap.size + 1 + 1 + 1 := by rw [hW]; simp
       have HW := Lib.hid hW
       have HSF := Lib.hid hsf
       clear hsf hsd hsv hfin hdj hW
       go_enter Tryz.func86, Tryz.ntmps86
       go_wp2_with fail
       rw [← HW.out]
       refine (zcp s.flash i lo hi g o c rc torn _ HSF.out.1 HP4.out hi4 hs hBkW hApt).mono ?_
       rintro e w1 ⟨rfl, hBk1, hA1⟩
       have hnot : ∀ j, w.heap.size ≤ j -> ¬ fblk (some ⟨g, o, none⟩) hs j := fun j hj h => by have := hApt.fblk h; omega
       replace b0 := (hA1.cell (by omega) (hnot _ (by omega)) 0).trans b0
       replace b1 := (hA1.cell (by omega) (hnot _ (by omega)) 1).trans b1
       replace b2 := (hA1.fz (by omega) (hnot _ (by omega)) 0).trans b2
       replace q0 := (hA1.cell (by omega) (hnot _ (by omega)) 0).trans q0
       replace q1 := (hA1.cell (by omega) (hnot _ (by omega)) 1).trans q1
       replace q2 := (hA1.fz (by omega) (hnot _ (by omega)) 0).trans q2
       replace q3 := (hA1.fz (by omega) (hnot _ (by omega)) 1).trans q3
       have hR1 : Row w1 (some ⟨db, dO, none⟩) (ints s.disk) := hRW.agr hA1 fun y hy hS => by
        rcases hS with h | ⟨j, z, hz, h⟩
        . exact (HDJ.out y hy).2.2.1 h
        . exact (HDJ.out y hy).2.2.2 j z hz h
       have hO1 : OSt w1 lo hi (some ⟨g, o, none⟩) (xv s.flash i rc torn).1 (some ⟨db, dO, none⟩) s.disk := ⟨hs, hBk1, hApt, hR1, HDJ.out⟩
       have hA2 : Agr (fun y => lo ≤ y ∧ y < hi) w w1 := hAW.trans hA1 fun y _ hy => hApt.fblk hy
       have hs1 := hA1.size
       clear hA1 hBk1 hR1 hRW hBkW hAW hnot
       go_wp2
       refine bodyPost_ret (v := .agg #[.slice (some ⟨g, o, none⟩) 4 c, .slice (some ⟨db, dO, none⟩) 6 d]) (by simp [results, Tryz.results86, go_sem, b0, b1, q0, q1]) rfl ⟨rfl, ?_, ?_⟩
       . rw [h3.out]
         have hbb : Below w.heap.size w1 (((w1.setCell ⟨w.heap.size, 0, none⟩ (.slice (some ⟨g, o, none⟩) 4 c)).setCell ⟨w.heap.size + 1 + 1, 0, none⟩ (.slice (some ⟨g, o, none⟩) 4 c)).setCell ⟨w.heap.size + 1 + 1, 1, none⟩ (.slice (some ⟨db, dO, none⟩) 6 d)) := bw
         exact hO1.keep fun y _ h2 _ => hbb.block y (by omega)
       . exact ((hA2.setCell (.inl (by simp)) _).setCell (.inl (by show w.heap.size ≤ w.heap.size + 1 + 1; omega)) _).setCell (.inl (by show w.heap.size ≤ w.heap.size + 1 + 1; omega)) _
     . have h3 : Hid (zr s ⟨k, a, v, b, rc⟩ torn = s) := by rw [Hid, hfin.out, if_neg h1, if_neg h2, if_neg h4]
       have e1 : (k == 1) = false := by simp [h1]
       have e2 : (k == 2) = false := by simp [h2]
       have e3 : (k == 3) = false := by simp [h4]
       clear hsf hsd hsv hfin hdj
       go_enter Tryz.func86, Tryz.ntmps86
       go_wp2
       refine bodyPost_ret (v := .agg #[.slice A 4 c, .slice (some ⟨db, dO, none⟩) 6 d]) (by simp [results, Tryz.results86, go_sem]) rfl ⟨rfl, ?_, ?_⟩
       . rw [h3.out]; exact ((hOS.out.alloc' _).alloc' _).alloc' _
       . exact (((Agr.refl _ _).alloc _).alloc _).alloc _
end
section
theorem y6 {α : Type} {l : List α} {i : Nat} {x y : α} (h : y ∈ l.set i x) : y ∈ l ∨ y = x := List.mem_or_eq_of_mem_set h
theorem zp9 : zp ⟨0, rc0⟩ = true := by decide
theorem zf9 : zp ⟨2, rc0⟩ = true := by decide
theorem zoh {r : Rc} (h : xk r = true) : zp ⟨1, r⟩ = true := by unfold zp; simpa using h
theorem Yb {f : List Bk} (h : Zv f) {i : Nat} (hi : i < 4) : zim (f.getD i zbk) := by
 have hl : i < f.length := by have := h.1; omega
 rw [List.getD_eq_getElem?_getD, List.getElem?_eq_getElem hl]
 exact h.2 _ (List.getElem_mem hl)
theorem zb8 {f : List Bk} {b : Bk} (h : Zv f) (hb : zim b) (i : Nat) : Zv (f.set i b) :=
 ⟨by rw [List.length_set]; exact h.1, fun c hc => by rcases y6 hc with hc | rfl; exact h.2 c hc; exact hb⟩
theorem zi0 {f : List Bk} (h : Zv f) {i : Nat} (hi : i < 4) (torn : Bool) : Zv (j9 f i torn).1 := by
 have hb := Yb h hi
 unfold j9 wipe
 split
 . exact h
 . rename_i hw
   refine zb8 h ⟨by simp, by have := hb.2.1; show 0 ≤ (f.getD i zbk).worn + 1; omega, by show (f.getD i zbk).worn + 1 ≤ 200; omega, fun p hp => ?_⟩ i
   have := List.eq_of_mem_replicate hp
   subst this
   cases torn
   . exact zp9
   . exact zf9
theorem zfx {f : List Bk} (h : Zv f) {i : Nat} (hi : i < 4) {r : Rc} (hr : xk r = true) (torn : Bool) : Zv (xv f i r torn).1 := by
 have hb := Yb h hi
 unfold xv
 split
 . exact h
 . have key : zim ⟨(f.getD i zbk).pages.set (4 - clean (f.getD i zbk)) (if torn then ⟨2, rc0⟩ else ⟨1, r⟩), (f.getD i zbk).worn⟩ := by
    refine ⟨by show ((f.getD i zbk).pages.set _ _).length = 4; rw [List.length_set]; exact hb.1, hb.2.1, hb.2.2.1, fun p hp => ?_⟩
    rcases y6 hp with hp | rfl
    . exact hb.2.2.2 p hp
    . cases torn
      . exact zoh hr
      . exact zf9
   exact zb8 h key i
theorem zau {s : St} {x : Sp} (hs : xy s) (hx : Xn x) (torn : Bool) : xy (zr s x torn) := by
 obtain ⟨h1, h2, h3⟩ := hs
 obtain ⟨x1, x2, x3⟩ := hx
 unfold zr
 split
 . rename_i hk
   split
   . exact ⟨h1, h2, h3⟩
   . refine ⟨h1, by rw [List.length_set]; exact h2, fun v hv => ?_⟩
     rcases y6 hv with hv | rfl
     . exact h3 v hv
     . exact ⟨(x1 hk).2.2.1, (x1 hk).2.2.2⟩
 . split
   . rename_i hk
     have := x2 (.inl hk)
     exact ⟨zi0 h1 (by omega) torn, h2, h3⟩
   . split
     . rename_i hk
       have := x2 (.inr hk)
       exact ⟨zfx h1 (by omega) (x3 hk) torn, h2, h3⟩
     . exact ⟨h1, h2, h3⟩
theorem Zh : ∀ {xs : List Sp} {s : St}, xy s -> (∀ x ∈ xs, Xn x) -> xy (zt s xs)
 | [], _, hs, _ => hs
 | x :: xs, s, hs, hx => Zh (xs := xs) (s := zr s x false) (zau hs (hx x (List.mem_cons_self ..)) false) (fun y hy => hx y (List.mem_cons_of_mem _ hy))
theorem zfg {s : St} {xs : List Sp} (hs : xy s) (hx : ∀ x ∈ xs, Xn x) (cut : Int) (torn : Bool) : xy (doTo s xs cut torn) := by
 have h1 := Zh (xs := xs.take cut.toNat) hs (fun x h => hx x (List.mem_of_mem_take h))
 unfold doTo
 split
 . rename_i h
   refine zau h1 ?_ true
   have hl : cut.toNat < xs.length := by omega
   rw [List.getD_eq_getElem?_getD, List.getElem?_eq_getElem hl]
   exact hx _ (List.getElem_mem hl)
 . exact h1
theorem xl {p : Pg} (h : zp p = true) (h1 : p.state = 1) : xk p.rc = true := by unfold zp at h; rw [if_pos h1] at h; exact h
theorem xw {r : Rc} (h : xk r = true) : 1 ≤ r.addr ∧ r.addr ≤ 6 ∧ 0 ≤ r.val ∧ r.val ≤ 9 ∧ 1 ≤ r.seq ∧ r.seq ≤ 600 := by
 unfold xk kj valB at h
 simp at h
 omega
theorem zkm {f : List Bk} {p : Pg} (hp : zp p = true) (h : told f p = true) : Xn (Zk p) := by
 unfold told live at h
 simp at h
 have := xw (xl hp h.1.1)
 exact ⟨fun _ => by unfold Zk; exact ⟨this.1, this.2.1, this.2.2.1, this.2.2.2.1⟩, fun h => by unfold Zk at h; simp at h, fun h => by unfold Zk at h; simp at h⟩
theorem Xp {f : List Bk} (h0 : 0 < f.length) : ∀ (r : List Bk) (i : Nat) (out : Int), i + r.length = f.length -> -1 ≤ out -> out < f.length -> 0 ≤ (jv f i out r).1 ∧ (jv f i out r).1 < f.length
 | [], i, out, _, h1, h2 => by unfold jv; dsimp only; omega
 | b :: r, i, out, hi, h1, h2 => by
   rw [List.length_cons] at hi
   unfold jv
   split
   . dsimp only; omega
   . split
     . exact Xp h0 r _ _ (by omega) (by omega) (by omega)
     . exact Xp h0 r _ _ (by omega) h1 h2
theorem zgq {f : List Bk} (h : f.length = 4) : 0 ≤ (kz f).1 ∧ (kz f).1 < 4 := by
 have := Xp (f := f) (by omega) f 0 (-1) (by omega) (by omega) (by omega)
 rw [h] at this
 exact this
theorem zc4 {f : List Bk} : ∀ (r : List Bk) (i out : Nat), i + r.length = f.length -> out < f.length -> Kk f i out r < f.length
 | [], _, _, _, h => h
 | b :: r, i, out, hi, h => by
   rw [List.length_cons] at hi
   unfold Kk
   split
   . exact zc4 r _ _ (by omega) (by omega)
   . exact zc4 r _ _ (by omega) h
theorem Ju {f : List Bk} (h : f.length = 4) : old f < 4 := by
 have := zc4 (f := f) (f.drop 1) 1 0 (by simp; omega) (by omega)
 rw [h] at this; exact this
theorem zeo {f : List Bk} (h : Zv f) : (∀ x ∈ (room f).1, Xn x) ∧ 0 ≤ (room f).2.1 ∧ (room f).2.1 < 4 := by
 have h1 := zgq h.1
 have h2 := Ju h.1
 have hb := Yb h h2
 unfold room
 split
 . exact ⟨fun x hx => absurd hx (by simp), h1.1, h1.2⟩
 . refine ⟨fun x hx => ?_, by dsimp only; omega, by dsimp only; omega⟩
   rcases List.mem_append.1 hx with hx | hx
   . unfold tells at hx
     obtain ⟨p, hp, rfl⟩ := List.mem_map.1 hx
     obtain ⟨hp1, hp2⟩ := List.mem_filter.1 hp
     exact zkm (hb.2.2.2 p hp1) hp2
   . rw [List.mem_singleton] at hx
     subst hx
     exact ⟨fun h => by simp at h, fun _ => by dsimp only; omega, fun h => by simp at h⟩
theorem zf2 {f : List Bk} (h : Zv f) (k a v : Int) : ∀ x ∈ wr f k a v, Xn x := by
 intro x hx
 obtain ⟨h1, h2, h3⟩ := zeo h
 unfold wr at hx
 split at hx
 . simp at hx
 . rename_i hn
   rcases List.mem_append.1 hx with hx | hx
   . exact h1 x hx
   . rw [List.mem_singleton] at hx
     subst hx
     refine ⟨fun h => by simp at h, fun _ => ⟨h2, h3⟩, fun _ => ?_⟩
     dsimp only
     rcases Bool.eq_false_or_eq_true (xk ⟨k, next f, a, v⟩) with h | h
     . exact h
     . exact absurd (.inr h) hn
theorem zbw {a : Int} : ∀ {ps : List Pg} {o : Rc}, (∀ p ∈ ps, zp p = true) -> (o = rc0 ∨ (xk o = true ∧ o.addr = a)) -> (xp a o ps = rc0 ∨ (xk (xp a o ps) = true ∧ (xp a o ps).addr = a))
 | [], _, _, h => h
 | p :: ps, o, hp, h => by
   refine zbw (ps := ps) (o := zv a o p) (fun q hq => hp q (List.mem_cons_of_mem _ hq)) ?_
   unfold zv
   split
   . rename_i hh
     exact .inr ⟨xl (hp p (List.mem_cons_self ..)) hh.1, hh.2.1⟩
   . exact h
theorem znk {f : List Bk} (h : ∀ b ∈ f, ∀ p ∈ b.pages, zp p = true) (a : Int) : last f a = rc0 ∨ (xk (last f a) = true ∧ (last f a).addr = a) := by
 have key : ∀ (g : List Bk) (o : Rc), (∀ b ∈ g, ∀ p ∈ b.pages, zp p = true) -> (o = rc0 ∨ (xk o = true ∧ o.addr = a)) -> (g.foldl (fun o b => xp a o b.pages) o = rc0 ∨ (xk (g.foldl (fun o b => xp a o b.pages) o) = true ∧ (g.foldl (fun o b => xp a o b.pages) o).addr = a)) := by
  intro g
  induction g with
  | nil => intro o _ h; exact h
  | cons b g ih => intro o hg h; exact ih _ (fun c hc => hg c (List.mem_cons_of_mem _ hc)) (zbw (hg b (List.mem_cons_self ..)) h)
 exact key f rc0 h (.inl rfl)
theorem Kc {f : List Bk} (h : ∀ b ∈ f, ∀ p ∈ b.pages, zp p = true) {a : Int} (h0 : 0 < (last f a).seq) : xk (last f a) = true ∧ (last f a).addr = a := by
 rcases znk h a with h1 | h1
 . rw [h1] at h0; exact absurd h0 (by decide)
 . exact h1
theorem zn4 {xs : List Int} (h : xs.length = 6) (hv : ∀ v ∈ xs, 0 ≤ v ∧ v ≤ 9) {i : Nat} (hi : i < 6) : 0 ≤ xs.getD i 0 ∧ xs.getD i 0 ≤ 9 := by
 have hl : i < xs.length := by omega
 rw [List.getD_eq_getElem?_getD, List.getElem?_eq_getElem hl]
 exact hv _ (List.getElem_mem hl)
theorem X0 {f : List Bk} (h : Zv f) : ∀ b ∈ f, ∀ p ∈ b.pages, zp p = true := fun b hb => (h.2 b hb).2.2.2
theorem zjd {s : St} (h : xy s) {a : Int} (h1 : 1 ≤ a) (h2 : a ≤ 6) : 0 ≤ xh s a ∧ xh s a ≤ 9 := by
 unfold xh
 split
 . rename_i h0
   have := xw (Kc (X0 h.1) h0).1
   omega
 . exact zn4 h.2.1 h.2.2 (by omega)
theorem Ya {s : St} (h : xy s) (a : Int) : ∀ x ∈ kg s a, Xn x := by
 intro x hx
 unfold kg at hx
 split at hx
 . simp at hx
 . rename_i hn
   split at hx
   . simp at hx
   . have ha : kj a = true := by
      rcases Bool.eq_false_or_eq_true (kj a) with h | h
      . exact h
      . exact absurd (.inl h) hn
     have ha2 : 1 ≤ a ∧ a ≤ 6 := by unfold kj at ha; simpa using ha
     rcases List.mem_cons.1 hx with rfl | hx
     . have := zjd h ha2.1 ha2.2
       exact ⟨fun _ => ⟨ha2.1, ha2.2, this.1, this.2⟩, fun h => by simp at h, fun h => by simp at h⟩
     . exact zf2 h.1 _ _ _ x hx
theorem zl6 {s : St} (h : xy s) (a : Int) : ∀ x ∈ fill s a, Xn x := by
 intro x hx
 unfold fill at hx
 split at hx
 . simp at hx
 . exact zf2 h.1 _ _ _ x hx
theorem Yk {s : St} (h : xy s) (e : Ev) : ∀ x ∈ zz s e, Xn x := by
 intro x hx
 unfold zz at hx
 split at hx
 . exact zf2 h.1 _ _ _ x hx
 . split at hx
   . exact Ya h _ x hx
   . split at hx
     . exact zl6 h _ x hx
     . simp at hx
theorem Yu {s : St} (h : xy s) (a : Int) : xy (kt s a) := zfg h (Ya h a) _ _
theorem zfi {s : St} (h : xy s) : xy (j4 s) := by
 have key : ∀ (l : List Int) (s : St), xy s -> xy (l.foldl kt s) := by
  intro l
  induction l with
  | nil => intro s h; exact h
  | cons a l ih => intro s h; exact ih _ (Yu h a)
 exact key _ s h
theorem zmg {s : St} (h : xy s) (e : Ev) : xy (doEv s e) := by
 unfold doEv
 split
 . exact zfi h
 . split
   . exact h
   . exact zfg h (Yk h e) _ _
theorem zbq {p : Pg} (h : zp p = true) : p.rc.seq ≤ 600 := by
 unfold zp at h
 split at h
 . exact (xw h).2.2.2.2.2
 . split at h
   . have : p.rc = rc0 := by simpa using h
     rw [this]; decide
   . cases h
theorem zeu : ∀ {ps : List Pg} {n : Int}, (∀ p ∈ ps, zp p = true) -> n ≤ 600 -> jk n ps ≤ 600
 | [], _, _, h => h
 | p :: ps, n, hp, h => zeu (ps := ps) (n := max n p.rc.seq) (fun q hq => hp q (List.mem_cons_of_mem _ hq)) (by have := zbq (hp p (List.mem_cons_self ..)); omega)
theorem Jw {f : List Bk} (h : Zv f) : ∀ b ∈ f, most b < 1000000000000 := fun b hb => by
 have : most b ≤ 600 := zeu (X0 h b hb) (by omega)
 omega
end
section
open Go.RowKit Go.Maps
theorem Row.sp {w : World} {b o k : Nat} {xs : List Sp} {x : Sp} (h : Row w (some ⟨b, o, none⟩) (sps xs)) (hk : xs[k]? = some x) :
 w.cell? ⟨b, o + k * 8, none⟩ = some (.int .i64 x.kind) ∧ w.cell? ⟨b, o + k * 8 + 1, none⟩ = some (.int .i64 x.addr) ∧ w.cell? ⟨b, o + k * 8 + 2, none⟩ = some (.int .i64 x.val) ∧ w.cell? ⟨b, o + k * 8 + 3, none⟩ = some (.int .i64 x.block) ∧
 w.cell? ⟨b, o + k * 8 + 4, none⟩ = some (.int .i64 x.rc.kind) ∧ w.cell? ⟨b, o + k * 8 + 5, none⟩ = some (.int .i64 x.rc.seq) ∧ w.cell? ⟨b, o + k * 8 + 6, none⟩ = some (.int .i64 x.rc.addr) ∧ w.cell? ⟨b, o + k * 8 + 7, none⟩ = some (.int .i64 x.rc.val) := by
 have hlt := (List.getElem?_eq_some_iff.1 hk).1
 obtain ⟨b', o', he, hc⟩ := h (by intro e; have := Zl xs; rw [e] at this; simp at this; omega)
 cases he
 have hg : ∀ j u, x.vs[j]? = some u -> j < 8 -> w.cell? ⟨b, o + (k * 8 + j), none⟩ = some u := fun j u hj hl => (hc (k * 8 + j) u (by rw [sps, jq _ 8 (fun _ => rfl) xs k j x hk hl]; exact hj)).1
 exact ⟨hg 0 _ rfl (by omega), hg 1 _ rfl (by omega), hg 2 _ rfl (by omega), hg 3 _ rfl (by omega), hg 4 _ rfl (by omega), hg 5 _ rfl (by omega), hg 6 _ rfl (by omega), hg 7 _ rfl (by omega)⟩
theorem zfk (s : St) (xs : List Sp) (x : Sp) : zt s (xs ++ [x]) = zr (zt s xs) x false := by
 unfold zt; rw [List.foldl_append]; rfl
theorem Yv {xs : List Sp} {k : Nat} {x : Sp} (s : St) (h : xs[k]? = some x) : zt s (xs.take (k + 1)) = zr (zt s (xs.take k)) x false := by
 rw [List.take_add_one, h]; exact zfk _ _ _
theorem OSt.drew {w : World} {lo hi : Nat} {A D : Option Addr} {f : List Bk} {xs : List Int} (h : OSt w lo hi A f D xs) : OSt w.drew lo hi A f D xs := h.keep fun _ _ _ _ => rfl
theorem zbl (s : St) (xs : List Sp) (cut : Int) (torn : Bool) (A D V : Option Addr) (c d cs lo hi : Nat) (w : World) (hs : xy s) (hx : ∀ x ∈ xs, Xn x) (hl : xs.length < 1000000000000) (hhi : hi ≤ w.heap.size) (hO : OSt w lo hi A s.flash D s.disk) (hX : Row w V (sps xs)) (hV : ∀ b, blk V b -> ¬ (lo ≤ b ∧ b < hi)) :
 Calls Tryz.prog 48 #[.agg #[.slice A 4 c, .slice D 6 d], .slice V xs.length cs, .int .i64 cut, .bool torn] w fun r w' =>
  r = .returned (.agg #[.slice A 4 c, .slice D 6 d]) ∧ OSt w' lo hi A (doTo s xs cut torn).flash D (doTo s xs cut torn).disk ∧ Agr (fun b => lo ≤ b ∧ b < hi) w w' := by
 have HX := Lib.hid hx
 have HS := Lib.hid hs
 have HV := Lib.hid hV
 clear hx hs hV
 go_enter Tryz.func48, Tryz.ntmps48
 go_wp2
 go_loopw [9] (fun i wr => ∃ k : Nat, k ≤ xs.length ∧ i = .int .i64 k ∧ (k : Int) ≤ max cut 0 ∧ OSt wr lo hi A (zt s (xs.take k)).flash D (zt s (xs.take k)).disk ∧ Agr (fun b => lo ≤ b ∧ b < hi) w wr ∧ w.heap.size + 1 < wr.heap.size ∧
  (wr.cell? ⟨w.heap.size, 0, none⟩ = some (.slice A 4 c) ∧ wr.cell? ⟨w.heap.size, 1, none⟩ = some (.slice D 6 d) ∧ wr.frozen? ⟨w.heap.size, 0, none⟩ = false ∧ wr.frozen? ⟨w.heap.size, 1, none⟩ = false) ∧
  (∃ u0 u1, wr.cell? ⟨w.heap.size + 1, 0, none⟩ = some u0 ∧ wr.cell? ⟨w.heap.size + 1, 1, none⟩ = some u1 ∧ wr.frozen? ⟨w.heap.size + 1, 0, none⟩ = false ∧ wr.frozen? ⟨w.heap.size + 1, 1, none⟩ = false)) (fun i _ => xs.length - (intOf i).toNat)
 case atStart =>
  have hN := Row.new (w.alloc (.cells #[.slice A 4 c, .slice D 6 d] 28)) #[.slice none 0 0, .slice none 0 0] 28
  simp only [World.size_alloc] at hN
  have hM := (Row.new w #[.slice A 4 c, .slice D 6 d] 28).alloc (.cells #[.slice none 0 0, .slice none 0 0] 28)
  exact ⟨0, by omega, rfl, by omega, (hO.alloc' _).alloc' _, ((Agr.refl _ _).alloc _).alloc _, by simp, ⟨(hM.at0 (j := 0) rfl).1, (hM.at0 (j := 1) rfl).1, (hM.at0 (j := 0) rfl).2, (hM.at0 (j := 1) rfl).2⟩, ⟨_, _, (hN.at0 (j := 0) rfl).1, (hN.at0 (j := 1) rfl).1, (hN.at0 (j := 0) rfl).2, (hN.at0 (j := 1) rfl).2⟩⟩
 case round =>
  obtain ⟨k, hk, rfl, hkc, hOk, hA, hsz, ⟨b0, b1, b2, b3⟩, ⟨u0, u1, q0, q1, q2, q3⟩⟩ := hrel
  by_cases hgo : k < xs.length ∧ (k : Int) < cut
  . obtain ⟨hlt, hct⟩ := hgo
    obtain ⟨x, hxk⟩ := zd hlt
    have hxf := HX.out x (List.mem_of_getElem? hxk)
    have hst := Zh (xs := xs.take k) HS.out (fun y hy => HX.out y (List.mem_of_mem_take hy))
    have hXk := hX.agr hA HV.out
    obtain ⟨vb, vo, rfl⟩ := hXk.addr (by intro e; have := Zl xs; rw [e] at this; simp at this; omega)
    obtain ⟨c0, c1, c2, c3, c4, c5, c6, c7⟩ := hXk.sp hxk
    have hst2 := Yv s hxk
    have HT := Lib.hid hst2
    have hk1 : (k : Int) < xs.length := by omega
    clear hst2 hxk hXk
    go_wp2
    have hle : hi ≤ wr.drew.heap.size := by show hi ≤ wr.heap.size; omega
    have hn0 : ¬ (lo ≤ w.heap.size ∧ w.heap.size < hi) := by omega
    have hl0 : w.heap.size < wr.drew.heap.size := by show w.heap.size < wr.heap.size; omega
    have hOd := hOk.drew
    have g0 : wr.drew.cell? ⟨w.heap.size, 0, none⟩ = some (.slice A 4 c) := b0
    have g1 : wr.drew.cell? ⟨w.heap.size, 1, none⟩ = some (.slice D 6 d) := b1
    have g2 : wr.drew.frozen? ⟨w.heap.size, 0, none⟩ = false := b2
    have g3 : wr.drew.frozen? ⟨w.heap.size, 1, none⟩ = false := b3
    go_region_with (first | (go_at_call 86; refine (zbm (zt s (xs.take k)) x false A D c d lo hi _ hst hxf hle hOd).mono ?_; rintro e w1 ⟨rfl, hO1, hA1⟩; have d0 := (hA1.cell hl0 hn0 0).trans g0; have d1 := (hA1.cell hl0 hn0 1).trans g1; have d2 := (hA1.fz hl0 hn0 0).trans g2; have d3 := (hA1.fz hl0 hn0 1).trans g3))
    all_goals
     have hn1 : ¬ (lo ≤ w.heap.size + 1 ∧ w.heap.size + 1 < hi) := by omega
     have hl1 : w.heap.size + 1 < wr.drew.heap.size := hsz
     have r0 := (hA1.cell hl1 hn1 0).trans (show wr.drew.cell? ⟨w.heap.size + 1, 0, none⟩ = some u0 from q0)
     have r1 := (hA1.cell hl1 hn1 1).trans (show wr.drew.cell? ⟨w.heap.size + 1, 1, none⟩ = some u1 from q1)
     have r2 := (hA1.fz hl1 hn1 0).trans (show wr.drew.frozen? ⟨w.heap.size + 1, 0, none⟩ = false from q2)
     have r3 := (hA1.fz hl1 hn1 1).trans (show wr.drew.frozen? ⟨w.heap.size + 1, 1, none⟩ = false from q3)
     have hA2 := hA.drew.trans hA1 (fun b _ hb => hb)
     have hs1 : wr.heap.size ≤ w1.heap.size := hA1.size
     rw [← HT.out] at hO1
     have hW : xr w1 ((w1.setCell ⟨w.heap.size, 0, none⟩ (.slice A 4 c)).setCell ⟨w.heap.size, 1, none⟩ (.slice D 6 d)) w.heap.size 0 [.slice A 4 c, .slice D 6 d] := zn w.heap.size [.slice A 4 c, .slice D 6 d] 0 w1 (fun j hj => by
      match j, hj with
      | 0, _ => exact ⟨_, d0⟩
      | 1, _ => exact ⟨_, d1⟩)
     have hO3 : OSt _ lo hi A (zt s (xs.take (k + 1))).flash D (zt s (xs.take (k + 1))).disk := hO1.keep fun b h1 h2 _ => hW.block b (by omega)
     have hA3 := hA2.trans (S' := (· = w.heap.size)) hW.agr (fun b hb e => by omega)
     have t0 := hW.new_ 0 _ rfl
     have t1 := hW.new_ 1 _ rfl
     have t2 := (hW.frozen ⟨w.heap.size, 0, none⟩).trans d2
     have t3 := (hW.frozen ⟨w.heap.size, 1, none⟩).trans d3
     have s0 := (hW.agr.cell (b := w.heap.size + 1) (by omega) (by omega) 0).trans r0
     have s1 := (hW.agr.cell (b := w.heap.size + 1) (by omega) (by omega) 1).trans r1
     have s2 := (hW.frozen ⟨w.heap.size + 1, 0, none⟩).trans r2
     have s3 := (hW.frozen ⟨w.heap.size + 1, 1, none⟩).trans r3
     have hss := hW.size
     clear hW
     go_wp2
     go_roundw
     (case rel => exact ⟨k + 1, by omega, by go_num, by omega, hO3, hA3, by omega, ⟨t0, t1, t2, t3⟩, ⟨u0, u1, s0, s1, s2, s3⟩⟩)
     (case measure => simp [intOf]; omega)
  . have hT : Hid (zt s (xs.take k) = zt s (xs.take cut.toNat)) := by
     rw [Hid]
     congr 1
     by_cases h : k < xs.length
     . have : ¬ (k : Int) < cut := fun h2 => hgo ⟨h, h2⟩
       rw [show cut.toNat = k by omega]
     . rw [List.take_of_length_le (by omega)]
       by_cases h2 : xs.length ≤ cut.toNat
       . rw [List.take_of_length_le h2]
       . rw [show cut.toNat = xs.length by omega, List.take_of_length_le nl]
    have hgd : (k : Int) < xs.length -> ¬ (k : Int) < cut := fun h h2 => hgo ⟨by omega, h2⟩
    rw [hT.out] at hOk
    clear hgo
    cases torn
    . have h3 : Hid (doTo s xs cut false = zt s (xs.take cut.toNat)) := by unfold Hid doTo; rw [if_neg (by simp)]
      by_cases hlt : (k : Int) < xs.length
      . have hct := hgd hlt
        go_wp2
        refine bodyPost_ret (v := .agg #[.slice A 4 c, .slice D 6 d]) (by simp [results, Tryz.results48, go_sem, b0, b1, q0, q1]) rfl ⟨rfl, ?_, ?_⟩
        . rw [h3.out]
          have hbb : Below w.heap.size wr ((wr.setCell ⟨w.heap.size + 1, 0, none⟩ (.slice A 4 c)).setCell ⟨w.heap.size + 1, 1, none⟩ (.slice D 6 d)) := bw
          exact hOk.keep fun y _ h2 _ => hbb.block y (by omega)
        . exact (hA.setCell (.inl (by show w.heap.size ≤ w.heap.size + 1; omega)) _).setCell (.inl (by show w.heap.size ≤ w.heap.size + 1; omega)) _
      . go_wp2
        refine bodyPost_ret (v := .agg #[.slice A 4 c, .slice D 6 d]) (by simp [results, Tryz.results48, go_sem, b0, b1, q0, q1]) rfl ⟨rfl, ?_, ?_⟩
        . rw [h3.out]
          have hbb : Below w.heap.size wr ((wr.setCell ⟨w.heap.size + 1, 0, none⟩ (.slice A 4 c)).setCell ⟨w.heap.size + 1, 1, none⟩ (.slice D 6 d)) := bw
          exact hOk.keep fun y _ h2 _ => hbb.block y (by omega)
        . exact (hA.setCell (.inl (by show w.heap.size ≤ w.heap.size + 1; omega)) _).setCell (.inl (by show w.heap.size ≤ w.heap.size + 1; omega)) _
    . have h3n : ¬ (0 ≤ cut ∧ cut < xs.length) -> Hid (doTo s xs cut true = zt s (xs.take cut.toNat)) := by intro h; unfold Hid doTo; rw [if_neg (by simpa using h)]
      have h3p : (0 ≤ cut ∧ cut < xs.length) -> Hid (doTo s xs cut true = zr (zt s (xs.take cut.toNat)) (xs.getD cut.toNat ⟨0, 0, 0, 0, rc0⟩) true) := by intro h; unfold Hid doTo; rw [if_pos (by simpa using h)]
      by_cases hlt : (k : Int) < xs.length
      . have hct := hgd hlt
        by_cases h0 : 0 ≤ cut
        . obtain rfl : cut = k := by omega
          have hst := Zh (xs := xs.take (k : Int).toNat) HS.out (fun y hy => HX.out y (List.mem_of_mem_take hy))
          obtain ⟨x, hxk⟩ := zd (l := xs) (k := k) (by omega)
          have hxf := HX.out x (List.mem_of_getElem? hxk)
          have hXk := hX.agr hA HV.out
          obtain ⟨vb, vo, rfl⟩ := hXk.addr (by intro e; have := Zl xs; rw [e] at this; simp at this; omega)
          obtain ⟨c0, c1, c2, c3, c4, c5, c6, c7⟩ := hXk.sp hxk
          have h3 : Hid (doTo s xs k true = zr (zt s (xs.take (k : Int).toNat)) x true) := by
           rw [Hid, (h3p ⟨by omega, by omega⟩).out, Int.toNat_natCast, List.getD_eq_getElem?_getD, hxk]; rfl
          have hk0 : (0 : Int) ≤ k := by omega
          have hk1 : (k : Int) ≤ xs.length - 1 := by omega
          clear h3p h3n hxk hXk hgd
          go_wp2_with fail
          refine (qm _ _ _ _).mono ?_
          rintro e w1 ⟨rfl, rfl⟩
          rw [show (decide ((0 : Int) ≤ k) && decide ((k : Int) ≤ xs.length - 1)) = true from by simp [hk0, hk1]]
          go_wp2
          have hle : hi ≤ wr.drew.heap.size := by show hi ≤ wr.heap.size; omega
          have hn0 : ¬ (lo ≤ w.heap.size ∧ w.heap.size < hi) := by omega
          have hl0 : w.heap.size < wr.drew.heap.size := by show w.heap.size < wr.heap.size; omega
          have hOd := hOk.drew
          have g0 : wr.drew.cell? ⟨w.heap.size, 0, none⟩ = some (.slice A 4 c) := b0
          have g1 : wr.drew.cell? ⟨w.heap.size, 1, none⟩ = some (.slice D 6 d) := b1
          have g2 : wr.drew.frozen? ⟨w.heap.size, 0, none⟩ = false := b2
          have g3 : wr.drew.frozen? ⟨w.heap.size, 1, none⟩ = false := b3
          go_region_with (first | (go_at_call 86; refine (zbm (zt s (xs.take (k : Int).toNat)) x true A D c d lo hi _ hst hxf hle hOd).mono ?_; rintro e w1 ⟨rfl, hO1, hA1⟩; have d0 := (hA1.cell hl0 hn0 0).trans g0; have d1 := (hA1.cell hl0 hn0 1).trans g1; have d2 := (hA1.fz hl0 hn0 0).trans g2; have d3 := (hA1.fz hl0 hn0 1).trans g3))
          all_goals
           have hn1 : ¬ (lo ≤ w.heap.size + 1 ∧ w.heap.size + 1 < hi) := by omega
           have hl1 : w.heap.size + 1 < wr.drew.heap.size := hsz
           have r0 := (hA1.cell hl1 hn1 0).trans (show wr.drew.cell? ⟨w.heap.size + 1, 0, none⟩ = some u0 from q0)
           have r1 := (hA1.cell hl1 hn1 1).trans (show wr.drew.cell? ⟨w.heap.size + 1, 1, none⟩ = some u1 from q1)
           have r2 := (hA1.fz hl1 hn1 0).trans (show wr.drew.frozen? ⟨w.heap.size + 1, 0, none⟩ = false from q2)
           have r3 := (hA1.fz hl1 hn1 1).trans (show wr.drew.frozen? ⟨w.heap.size + 1, 1, none⟩ = false from q3)
           have hA2 := hA.drew.trans hA1 (fun b _ hb => hb)
           have hs1 : wr.heap.size ≤ w1.heap.size := hA1.size
           have hW : xr w1 ((w1.setCell ⟨w.heap.size, 0, none⟩ (.slice A 4 c)).setCell ⟨w.heap.size, 1, none⟩ (.slice D 6 d)) w.heap.size 0 [.slice A 4 c, .slice D 6 d] := zn w.heap.size [.slice A 4 c, .slice D 6 d] 0 w1 (fun j hj => by
            match j, hj with
            | 0, _ => exact ⟨_, d0⟩
            | 1, _ => exact ⟨_, d1⟩)
           have hO3 : OSt _ lo hi A (zr (zt s (xs.take (k : Int).toNat)) x true).flash D (zr (zt s (xs.take (k : Int).toNat)) x true).disk := hO1.keep fun b h1 h2 _ => hW.block b (by omega)
           have hA3 := hA2.trans (S' := (· = w.heap.size)) hW.agr (fun b hb e => by omega)
           have t0 := hW.new_ 0 _ rfl
           have t1 := hW.new_ 1 _ rfl
           have s0 := (hW.agr.cell (b := w.heap.size + 1) (by omega) (by omega) 0).trans r0
           have s1 := (hW.agr.cell (b := w.heap.size + 1) (by omega) (by omega) 1).trans r1
           have s2 := (hW.frozen ⟨w.heap.size + 1, 0, none⟩).trans r2
           have s3 := (hW.frozen ⟨w.heap.size + 1, 1, none⟩).trans r3
           have hss := hW.size
           clear hW
           go_wp2
           refine bodyPost_ret (v := .agg #[.slice A 4 c, .slice D 6 d]) (by simp [results, Tryz.results48, go_sem, t0, t1, s0, s1]) rfl ⟨rfl, ?_, ?_⟩
           . rw [h3.out]
             refine hO3.keep fun y _ h2 _ => ?_
             rw [Below.heap_setCell _ _ _ _ (by show y ≠ w.heap.size + 1; omega), Below.heap_setCell _ _ _ _ (by show y ≠ w.heap.size + 1; omega)]
           . exact (hA3.setCell (.inl (by show w.heap.size ≤ w.heap.size + 1; omega)) _).setCell (.inl (by show w.heap.size ≤ w.heap.size + 1; omega)) _
        . have h3 := h3n (by omega)
          have e0 : decide (0 ≤ cut) = false := by simpa using h0
          go_wp2_with fail
          refine (qm _ _ _ _).mono ?_
          rintro e w1 ⟨rfl, rfl⟩
          rw [e0, Bool.false_and]
          go_wp2
          refine bodyPost_ret (v := .agg #[.slice A 4 c, .slice D 6 d]) (by simp [results, Tryz.results48, go_sem, b0, b1, q0, q1]) rfl ⟨rfl, ?_, ?_⟩
          . rw [h3.out]
            have hbb : Below w.heap.size wr ((wr.setCell ⟨w.heap.size + 1, 0, none⟩ (.slice A 4 c)).setCell ⟨w.heap.size + 1, 1, none⟩ (.slice D 6 d)) := bw
            exact hOk.keep fun y _ h2 _ => hbb.block y (by omega)
          . exact (hA.setCell (.inl (by show w.heap.size ≤ w.heap.size + 1; omega)) _).setCell (.inl (by show w.heap.size ≤ w.heap.size + 1; omega)) _
      . have h3 := h3n (by omega)
        have e0 : (decide (0 ≤ cut) && decide (cut ≤ (xs.length : Int) - 1)) = false := by simp; omega
        go_wp2_with fail
        refine (qm _ _ _ _).mono ?_
        rintro e w1 ⟨rfl, rfl⟩
        rw [e0]
        go_wp2
        refine bodyPost_ret (v := .agg #[.slice A 4 c, .slice D 6 d]) (by simp [results, Tryz.results48, go_sem, b0, b1, q0, q1]) rfl ⟨rfl, ?_, ?_⟩
        . rw [h3.out]
          have hbb : Below w.heap.size wr ((wr.setCell ⟨w.heap.size + 1, 0, none⟩ (.slice A 4 c)).setCell ⟨w.heap.size + 1, 1, none⟩ (.slice D 6 d)) := bw
          exact hOk.keep fun y _ h2 _ => hbb.block y (by omega)
        . exact (hA.setCell (.inl (by show w.heap.size ≤ w.heap.size + 1; omega)) _).setCell (.inl (by show w.heap.size ≤ w.heap.size + 1; omega)) _
end
section
open Go.RowKit Go.Maps
def upto (s : St) : Nat -> St
 | 0 => s
 | k + 1 => kt (upto s k) (k + 1)
theorem zhp (s : St) : upto s 6 = j4 s := by
 simp only [upto, j4, List.foldl_cons, List.foldl_nil]
 generalize kt = F
 rfl
theorem zdy {s : St} (h : xy s) : ∀ k, xy (upto s k)
 | 0 => h
 | k + 1 => Yu (zdy h k) _
theorem yv {s : St} (h : xy s) : ∀ b ∈ s.flash, b.pages.length = 4 := fun b hb => (h.1.2 b hb).1
theorem zam {s : St} (h : xy s) (a : Int) : (kg s a).length ≤ 7 := by
 have := zdw h.1.1 (yv h) 2 a (xh s a)
 unfold kg
 split
 . simp
 . split
   . simp
   . simp only [List.length_cons]; omega
theorem zgj (s : St) (A D : Option Addr) (c d lo hi : Nat) (w : World) (hs : xy s) (hhi : hi ≤ w.heap.size) (hO : OSt w lo hi A s.flash D s.disk) :
 Calls Tryz.prog 47 #[.agg #[.slice A 4 c, .slice D 6 d]] w fun r w' =>
  r = .returned (.agg #[.slice A 4 c, .slice D 6 d]) ∧ OSt w' lo hi A (j4 s).flash D (j4 s).disk ∧ Agr (fun b => lo ≤ b ∧ b < hi) w w' := by
 have HS := Lib.hid hs
 clear hs
 go_enter Tryz.func47, Tryz.ntmps47
 go_wp2
 go_loopw [3] (fun i wr => ∃ k : Nat, k ≤ 6 ∧ i = .int .i64 (k + 1) ∧ OSt wr lo hi A (upto s k).flash D (upto s k).disk ∧ Agr (fun b => lo ≤ b ∧ b < hi) w wr ∧ w.heap.size + 1 < wr.heap.size ∧
  (wr.cell? ⟨w.heap.size, 0, none⟩ = some (.slice A 4 c) ∧ wr.cell? ⟨w.heap.size, 1, none⟩ = some (.slice D 6 d) ∧ wr.frozen? ⟨w.heap.size, 0, none⟩ = false ∧ wr.frozen? ⟨w.heap.size, 1, none⟩ = false) ∧
  (∃ u0 u1, wr.cell? ⟨w.heap.size + 1, 0, none⟩ = some u0 ∧ wr.cell? ⟨w.heap.size + 1, 1, none⟩ = some u1 ∧ wr.frozen? ⟨w.heap.size + 1, 0, none⟩ = false ∧ wr.frozen? ⟨w.heap.size + 1, 1, none⟩ = false)) (fun i _ => 7 - (intOf i).toNat)
 case atStart =>
  have hN := Row.new (w.alloc (.cells #[.slice A 4 c, .slice D 6 d] 28)) #[.slice none 0 0, .slice none 0 0] 28
  simp only [World.size_alloc] at hN
  have hM := (Row.new w #[.slice A 4 c, .slice D 6 d] 28).alloc (.cells #[.slice none 0 0, .slice none 0 0] 28)
  exact ⟨0, by omega, rfl, (hO.alloc' _).alloc' _, ((Agr.refl _ _).alloc _).alloc _, by simp, ⟨(hM.at0 (j := 0) rfl).1, (hM.at0 (j := 1) rfl).1, (hM.at0 (j := 0) rfl).2, (hM.at0 (j := 1) rfl).2⟩, ⟨_, _, (hN.at0 (j := 0) rfl).1, (hN.at0 (j := 1) rfl).1, (hN.at0 (j := 0) rfl).2, (hN.at0 (j := 1) rfl).2⟩⟩
 case round =>
  obtain ⟨k, hk, rfl, hOk, hA, hsz, ⟨b0, b1, b2, b3⟩, ⟨u0, u1, q0, q1, q2, q3⟩⟩ := hrel
  by_cases hlt : k < 6
  . have hst := Lib.hid (zdy HS.out k)
    have hk1 : (k : Int) + 1 ≤ 6 := by omega
    go_wp2_with fail
    refine (Jc (upto s k) (k + 1) A D c d _ hst.out.1.1 (yv hst.out) (Jw hst.out.1) hst.out.2.1 hOk.ofl.fl hOk.disk).mono ?_
    rintro e w1 ⟨v, rfl, hOS, hb⟩
    obtain ⟨V, cs, rfl, hcs, hRow, hblk⟩ := hOS.shape
    have hff := Lib.hid (Ya hst.out (k + 1))
    have hfl := zam hst.out (k + 1)
    have hO1 := hOk.below hb nl
    have hA1 := hA.trans (S' := fun _ => False) (Agr.of_below hb) (fun b hb e => absurd e id)
    have hs1 := hb.size
    obtain ⟨hc, hfz⟩ := jr hb
    replace b0 := (hc _ _ (by omega)).trans b0
    replace b1 := (hc _ _ (by omega)).trans b1
    replace b2 := (hfz _ _ (by omega)).trans b2
    replace b3 := (hfz _ _ (by omega)).trans b3
    replace q0 := (hc _ _ (by omega)).trans q0
    replace q1 := (hc _ _ (by omega)).trans q1
    replace q2 := (hfz _ _ (by omega)).trans q2
    replace q3 := (hfz _ _ (by omega)).trans q3
    have hfin : Hid (doTo (upto s k) (kg (upto s k) (k + 1)) (kg (upto s k) (k + 1)).length false = upto s (k + 1)) := rfl
    generalize kg (upto s k) (k + 1) = xs at *
    clear hb hc hfz hOk hA hOS
    go_wp2_with fail
    have hsz0 := hA1.size
    refine (zbl (upto s k) xs xs.length false A D V c d cs lo hi _ hst.out hff.out (by omega) (by omega) hO1 hRow (fun b hb => by have := hblk b hb; omega)).mono ?_
    rintro e w2 ⟨rfl, hO2, hA2⟩
    have hs2 := hA2.size
    replace b0 := (hA2.cell (by omega) (by omega) 0).trans b0
    replace b1 := (hA2.cell (by omega) (by omega) 1).trans b1
    replace b2 := (hA2.fz (by omega) (by omega) 0).trans b2
    replace b3 := (hA2.fz (by omega) (by omega) 1).trans b3
    replace q0 := (hA2.cell (by omega) (by omega) 0).trans q0
    replace q1 := (hA2.cell (by omega) (by omega) 1).trans q1
    replace q2 := (hA2.fz (by omega) (by omega) 0).trans q2
    replace q3 := (hA2.fz (by omega) (by omega) 1).trans q3
    have hA3 := hA1.trans hA2 (fun b _ hb => hb)
    rw [hfin.out] at hO2
    clear hO1 hA1 hA2 hRow
    have hW : xr w2 ((w2.setCell ⟨w.heap.size, 0, none⟩ (.slice A 4 c)).setCell ⟨w.heap.size, 1, none⟩ (.slice D 6 d)) w.heap.size 0 [.slice A 4 c, .slice D 6 d] := zn w.heap.size [.slice A 4 c, .slice D 6 d] 0 w2 (fun j hj => by
     match j, hj with
     | 0, _ => exact ⟨_, b0⟩
     | 1, _ => exact ⟨_, b1⟩)
    have hO3 : OSt _ lo hi A (upto s (k + 1)).flash D (upto s (k + 1)).disk := hO2.keep fun b h1 h2 _ => hW.block b (by omega)
    have hA4 := hA3.trans (S' := (· = w.heap.size)) hW.agr (fun b hb e => by omega)
    have t0 := hW.new_ 0 _ rfl
    have t1 := hW.new_ 1 _ rfl
    have t2 := (hW.frozen ⟨w.heap.size, 0, none⟩).trans b2
    have t3 := (hW.frozen ⟨w.heap.size, 1, none⟩).trans b3
    have s0 := (hW.agr.cell (b := w.heap.size + 1) (by omega) (by omega) 0).trans q0
    have s1 := (hW.agr.cell (b := w.heap.size + 1) (by omega) (by omega) 1).trans q1
    have s2 := (hW.frozen ⟨w.heap.size + 1, 0, none⟩).trans q2
    have s3 := (hW.frozen ⟨w.heap.size + 1, 1, none⟩).trans q3
    have hss := hW.size
    have e1 : IntKind.i64.wrap ((k : Int) + 1 + 1) = (k : Int) + 1 + 1 := IntWalk.i64_in _ (by omega)
    clear hW
    go_wp2
    go_roundw
    (case rel => exact ⟨k + 1, by omega, by go_num, hO3, hA4, by omega, ⟨t0, t1, t2, t3⟩, ⟨u0, u1, s0, s1, s2, s3⟩⟩)
    (case measure => simp [intOf]; omega)
  . obtain rfl : k = 6 := by omega
    go_wp2
    refine bodyPost_ret (v := .agg #[.slice A 4 c, .slice D 6 d]) (by simp [results, Tryz.results47, go_sem, b0, b1, q0, q1]) rfl ⟨rfl, ?_, ?_⟩
    . rw [← zhp]
      have hbb : Below w.heap.size wr ((wr.setCell ⟨w.heap.size + 1, 0, none⟩ (.slice A 4 c)).setCell ⟨w.heap.size + 1, 1, none⟩ (.slice D 6 d)) := bw
      exact hOk.keep fun y _ h2 _ => hbb.block y (by omega)
    . exact (hA.setCell (.inl (by show w.heap.size ≤ w.heap.size + 1; omega)) _).setCell (.inl (by show w.heap.size ≤ w.heap.size + 1; omega)) _
end
section
open Go.RowKit Go.Maps
theorem Qp {s : St} (h : xy s) (e : Ev) : (zz s e).length ≤ 8 := by
 have h1 := zdw h.1.1 (yv h)
 unfold zz
 split
 . have := h1 1 e.a e.b; omega
 . split
   . have := zam h e.a; omega
   . split
     . unfold fill
       split
       . simp
       . have := h1 2 e.a (s.disk.getD (e.a - 1).toNat 0); omega
     . simp
theorem zbj (s : St) (e : Ev) (A D : Option Addr) (c d lo hi : Nat) (w : World) (hs : xy s) (hhi : hi ≤ w.heap.size) (hO : OSt w lo hi A s.flash D s.disk) :
 Calls Tryz.prog 27 #[.agg #[.slice A 4 c, .slice D 6 d], .agg #[.int .i64 e.kind, .int .i64 e.a, .int .i64 e.b, .int .i64 e.c, .bool e.torn]] w fun r w' =>
  r = .returned (.agg #[.slice A 4 c, .slice D 6 d]) ∧ OSt w' lo hi A (doEv s e).flash D (doEv s e).disk ∧ Agr (fun b => lo ≤ b ∧ b < hi) w w' := by
 obtain ⟨k, a, b, cc, t⟩ := e
 dsimp only
 have HS := Lib.hid hs
 have hfin : Hid (doEv s ⟨k, a, b, cc, t⟩ = if k = 4 then j4 s else if cc < 0 then s else doTo s (zz s ⟨k, a, b, cc, t⟩) cc t) := rfl
 obtain ⟨W, hW⟩ : ∃ W, W = ((w.alloc (.cells #[.slice A 4 c, .slice D 6 d] 28)).alloc (.cells #[.int .i64 k, .int .i64 a, .int .i64 b, .int .i64 cc, .bool t] 33)).alloc (.cells #[.slice none 0 0, .slice none 0 0] 28) := ⟨_, rfl⟩
 have hOW : OSt W lo hi A s.flash D s.disk := by rw [hW]; exact ((hO.alloc' _).alloc' _).alloc' _
 have hAW : Agr (fun y => lo ≤ y ∧ y < hi) w W := by rw [hW]; exact (((Agr.refl _ _).alloc _).alloc _).alloc _
 have b0 : W.cell? ⟨w.heap.size, 0, none⟩ = some (.slice A 4 c) := by rw [hW]; exact zj2 (by simp)
 have b1 : W.cell? ⟨w.heap.size, 1, none⟩ = some (.slice D 6 d) := by rw [hW]; exact zj2 (by simp)
 have hM := ((Row.new (w.alloc (.cells #[.slice A 4 c, .slice D 6 d] 28)) #[.int .i64 k, .int .i64 a, .int .i64 b, .int .i64 cc, .bool t] 33).alloc (.cells #[.slice none 0 0, .slice none 0 0] 28))
 rw [← hW] at hM
 simp only [World.size_alloc] at hM
 have c0 := (hM.at0 (j := 0) rfl).1
 have c1 := (hM.at0 (j := 1) rfl).1
 have c2 := (hM.at0 (j := 2) rfl).1
 have c3 := (hM.at0 (j := 3) rfl).1
 have c4 := (hM.at0 (j := 4) rfl).1
 have hT := top3 w (.cells #[.slice A 4 c, .slice D 6 d] 28) (.cells #[.int .i64 k, .int .i64 a, .int .i64 b, .int .i64 cc, .bool t] 33) #[.slice none 0 0, .slice none 0 0] 28
 rw [← hW] at hT
 have q0 := (hT.at0 (j := 0) rfl).1
 have q1 := (hT.at0 (j := 1) rfl).1
 have q2 := (hT.at0 (j := 0) rfl).2
 have q3 := (hT.at0 (j := 1) rfl).2
 have hWs : W.heap.size = w.heap.size + 1 + 1 + 1 := by rw [hW]; simp
 have HW := Lib.hid hW
 clear hW hs hT hM
 by_cases h4 : k = 4
 . subst h4
   have h3 : Hid (doEv s ⟨4, a, b, cc, t⟩ = j4 s) := by rw [Hid, hfin.out, if_pos rfl]
   go_enter Tryz.func27, Tryz.ntmps27
   go_wp2_with fail
   rw [← HW.out]
   refine (zgj s A D c d lo hi _ HS.out (by omega) hOW).mono ?_
   rintro e w1 ⟨rfl, hO1, hA1⟩
   replace q0 := (hA1.cell (by omega) (by omega) 0).trans q0
   replace q1 := (hA1.cell (by omega) (by omega) 1).trans q1
   replace q2 := (hA1.fz (by omega) (by omega) 0).trans q2
   replace q3 := (hA1.fz (by omega) (by omega) 1).trans q3
   have hA2 := hAW.trans hA1 (fun b _ hb => hb)
   have hs1 := hA1.size
   clear hA1 hOW hAW
   go_wp2
   refine bodyPost_ret (v := .agg #[.slice A 4 c, .slice D 6 d]) (by simp [results, Tryz.results27, go_sem, q0, q1]) rfl ⟨rfl, ?_, ?_⟩
   . rw [h3.out]
     refine hO1.keep fun y _ h2 _ => ?_
     rw [Below.heap_setCell _ _ _ _ (by show y ≠ w.heap.size + 1 + 1; omega), Below.heap_setCell _ _ _ _ (by show y ≠ w.heap.size + 1 + 1; omega)]
   . exact (hA2.setCell (.inl (by show w.heap.size ≤ w.heap.size + 1 + 1; omega)) _).setCell (.inl (by show w.heap.size ≤ w.heap.size + 1 + 1; omega)) _
 . have h4' : (k == 4) = false := by simpa using h4
   by_cases hc : cc < 0
   . have h3 : Hid (doEv s ⟨k, a, b, cc, t⟩ = s) := by rw [Hid, hfin.out, if_neg h4, if_pos hc]
     go_enter Tryz.func27, Tryz.ntmps27
     go_wp2
     refine bodyPost_ret (v := .agg #[.slice A 4 c, .slice D 6 d]) (by simp [results, Tryz.results27, go_sem]) rfl ⟨rfl, ?_, ?_⟩
     . rw [h3.out]
       exact ((hO.alloc' _).alloc' _).alloc' _
     . exact (((Agr.refl _ _).alloc _).alloc _).alloc _
   . have h3 : Hid (doEv s ⟨k, a, b, cc, t⟩ = doTo s (zz s ⟨k, a, b, cc, t⟩) cc t) := by rw [Hid, hfin.out, if_neg h4, if_neg hc]
     have hW1 : w.heap.size < W.drew.heap.size := by show w.heap.size < W.heap.size; omega
     have hW2 : w.heap.size + 1 < W.drew.heap.size := by show w.heap.size + 1 < W.heap.size; omega
     have hW3 : w.heap.size + 1 + 1 < W.drew.heap.size := by show w.heap.size + 1 + 1 < W.heap.size; omega
     have hff := Lib.hid (Yk HS.out ⟨k, a, b, cc, t⟩)
     have hfl := Qp HS.out ⟨k, a, b, cc, t⟩
     have hO0 := hOW.drew
     have hsz : w.heap.size + 1 + 1 < W.heap.size := by omega
     have h5 := Lib.hid (zcq s ⟨k, a, b, cc, t⟩ A D c d W.drew HS.out.1.1 (yv HS.out) (Jw HS.out.1) HS.out.2.1 hO0.ofl.fl hO0.disk)
     generalize zz s ⟨k, a, b, cc, t⟩ = xs at *
     go_enter Tryz.func27, Tryz.ntmps27
     go_wp2_with fail
     rw [← HW.out]
     have db0 : W.drew.cell? ⟨w.heap.size, 0, none⟩ = some (.slice A 4 c) := b0
     have db1 : W.drew.cell? ⟨w.heap.size, 1, none⟩ = some (.slice D 6 d) := b1
     have dc0 : W.drew.cell? ⟨w.heap.size + 1, 0, none⟩ = some (.int .i64 k) := c0
     have dc1 : W.drew.cell? ⟨w.heap.size + 1, 1, none⟩ = some (.int .i64 a) := c1
     have dc2 : W.drew.cell? ⟨w.heap.size + 1, 2, none⟩ = some (.int .i64 b) := c2
     have dc3 : W.drew.cell? ⟨w.heap.size + 1, 3, none⟩ = some (.int .i64 cc) := c3
     have dc4 : W.drew.cell? ⟨w.heap.size + 1, 4, none⟩ = some (.bool t) := c4
     have dq0 : W.drew.cell? ⟨w.heap.size + 1 + 1, 0, none⟩ = some (.slice none 0 0) := q0
     have dq1 : W.drew.cell? ⟨w.heap.size + 1 + 1, 1, none⟩ = some (.slice none 0 0) := q1
     have dq2 : W.drew.frozen? ⟨w.heap.size + 1 + 1, 0, none⟩ = false := q2
     have dq3 : W.drew.frozen? ⟨w.heap.size + 1 + 1, 1, none⟩ = false := q3
     have hAd : Agr (fun y => lo ≤ y ∧ y < hi) w W.drew := hAW.drew
     have hid : hi ≤ W.drew.heap.size := by show hi ≤ W.heap.size; omega
     have hWd : W.drew.heap.size = w.heap.size + 1 + 1 + 1 := hWs
     have n1 : w.heap.size + 1 + 1 ≠ w.heap.size := by omega
     have n2 : w.heap.size + 1 + 1 ≠ w.heap.size + 1 := by omega
     go_region_held3 (fun w' => w'.cell? ⟨w.heap.size, 0, none⟩ = some (.slice A 4 c) ∧ w'.cell? ⟨w.heap.size, 1, none⟩ = some (.slice D 6 d) ∧ w'.cell? ⟨w.heap.size + 1, 0, none⟩ = some (.int .i64 k) ∧ w'.cell? ⟨w.heap.size + 1, 1, none⟩ = some (.int .i64 a) ∧ w'.cell? ⟨w.heap.size + 1, 2, none⟩ = some (.int .i64 b) ∧ w'.cell? ⟨w.heap.size + 1, 3, none⟩ = some (.int .i64 cc) ∧ w'.cell? ⟨w.heap.size + 1, 4, none⟩ = some (.bool t))
      (first | go_keep | trivial)
      (first
       | (go_at_call 49; with_reducible refine h5.out.mono ?_; rintro e w1 ⟨v, rfl, hOS, hb⟩; obtain ⟨V, cs, rfl, hcs, hRow, hblk⟩ := hOS.shape; have hO1 := hO0.below hb nl; have hs1 := hb.size; obtain ⟨hc1, hf1⟩ := jr hb; have ib0 := (hc1 _ 0 hW1).trans db0; have ib1 := (hc1 _ 1 hW1).trans db1; have ic0 := (hc1 _ 0 hW2).trans dc0; have ic1 := (hc1 _ 1 hW2).trans dc1; have ic2 := (hc1 _ 2 hW2).trans dc2; have ic3 := (hc1 _ 3 hW2).trans dc3; have ic4 := (hc1 _ 4 hW2).trans dc4; have iq0 := (hc1 _ 0 hW3).trans dq0; have iq1 := (hc1 _ 1 hW3).trans dq1; have iq2 := (hf1 _ 0 hW3).trans dq2; have iq3 := (hf1 _ 1 hW3).trans dq3; have hA1 := hAd.trans (S' := fun _ => False) (Agr.of_below hb) (fun b hb e => absurd e id); clear hb hc1 hf1)
       | (go_at_call 48; with_reducible refine (zbl s xs cc t A D V c d cs lo hi _ HS.out hff.out (by omega) (by omega) hO1 hRow (fun b hb => by have := hblk b hb; omega)).mono ?_; rintro e w2 ⟨rfl, hO2, hA2⟩; have kb0 := (hA2.cell (b := w.heap.size) (by omega) (by omega) 0).trans ib0; have kb1 := (hA2.cell (b := w.heap.size) (by omega) (by omega) 1).trans ib1; have kc0 := (hA2.cell (b := w.heap.size + 1) (by omega) (by omega) 0).trans ic0; have kc1 := (hA2.cell (b := w.heap.size + 1) (by omega) (by omega) 1).trans ic1; have kc2 := (hA2.cell (b := w.heap.size + 1) (by omega) (by omega) 2).trans ic2; have kc3 := (hA2.cell (b := w.heap.size + 1) (by omega) (by omega) 3).trans ic3; have kc4 := (hA2.cell (b := w.heap.size + 1) (by omega) (by omega) 4).trans ic4; have kq0 := (hA2.cell (b := w.heap.size + 1 + 1) (by omega) (by omega) 0).trans iq0; have kq1 := (hA2.cell (b := w.heap.size + 1 + 1) (by omega) (by omega) 1).trans iq1; have kq2 := (hA2.fz (b := w.heap.size + 1 + 1) (by omega) (by omega) 0).trans iq2; have kq3 := (hA2.fz (b := w.heap.size + 1 + 1) (by omega) (by omega) 1).trans iq3))
     have hA3 := hA1.trans hA2 (fun b _ hb => hb)
     have hs2 := hA2.size
     clear hA1 hA2 hAd hAW
     go_wp2
     refine bodyPost_ret (v := .agg #[.slice A 4 c, .slice D 6 d]) (by simp [results, Tryz.results27, go_sem, kq0, kq1]) rfl ⟨rfl, ?_, ?_⟩
     . rw [h3.out]
       refine hO2.keep fun y _ h2 _ => ?_
       rw [Below.heap_setCell _ _ _ _ (by show y ≠ w.heap.size + 1 + 1; omega), Below.heap_setCell _ _ _ _ (by show y ≠ w.heap.size + 1 + 1; omega)]
     . exact (hA3.setCell (.inl (by show w.heap.size ≤ w.heap.size + 1 + 1; omega)) _).setCell (.inl (by show w.heap.size ≤ w.heap.size + 1 + 1; omega)) _
end
section
open Go.RowKit Go.Maps
theorem zq (n : Nat) (N : Int) (B R m : Nat) (w : World) (hN : N = n) (hn : 1 ≤ n) (hn2 : n ≤ 1000000) (hm : m ≤ 1000000) (hR : Rd w B R m) :
 Calls Tryz.prog 22 #[.pointer (some ⟨R, 0, none⟩), .int .i64 N] w fun e w' => ∃ k : Nat, e = .returned (.int .i64 k) ∧ k < n ∧ Rd w' B R (m + 1) ∧ Agr (· = R) w w' := by subst hN; exact zkt n B R m w hn hn2 hm hR
def sm (x : Int) : Prop := -1 ≤ x ∧ x ≤ 1000
theorem Rd.high {w w' : World} {B R m L : Nat} (h : Rd w B R m) (ha : Agr (fun b => L ≤ b) w w') (hL : R < L) : Rd w' B R m :=
 h.agr ha (by omega) (fun b hb => by have := h.le; omega)
end
end Go.Proofs.YtclnogfmmekooaaGreat
