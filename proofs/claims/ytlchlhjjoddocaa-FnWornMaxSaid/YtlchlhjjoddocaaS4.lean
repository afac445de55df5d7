/- Walks: the reference's new flash, and its wipe. -/
import Derived.Test.YtlchlhjjoddocaaS2
import Derived.Test.YtlchlhjjoddocaaS3
import Derived.Test.YtlchlhjjoddocaaC2
namespace Go.Proofs.Ytlchlhjjoddocaa
set_option linter.unusedVariables false
set_option linter.unusedSimpArgs false
open Go.RowKit Go.Maps
set_option maxHeartbeats 400000
theorem make_pages (w : World) : (Instr.makeSlice 34 (.int .i64 4) (.int .i64 4)).run Try.prog w = .ok (.slice (some ⟨w.heap.size, 0, none⟩) 4 4) (w.alloc (.cells #[.int .i64 0, .int .i64 0, .int .i64 0, .int .i64 0, .int .i64 0, .int .i64 0, .int .i64 0, .int .i64 0, .int .i64 0, .int .i64 0, .int .i64 0, .int .i64 0, .int .i64 0, .int .i64 0, .int .i64 0, .int .i64 0, .int .i64 0, .int .i64 0, .int .i64 0, .int .i64 0] 42)) := by kernel_rfl
set_option maxRecDepth 100000 in
set_option maxHeartbeats 1600000 in
theorem spec_FlashNew (w : World) : Calls Try.prog 62 #[] w fun e w' =>
    ∃ g c', e = .returned (.slice (some ⟨g, 0, none⟩) 4 c') ∧ 4 ≤ c' ∧ OFl w' w.heap.size w'.heap.size (some ⟨g, 0, none⟩) flashNew ∧ Below w.heap.size w w' := by
  obtain ⟨ib, hib, hbz0, hbz1, hbz2⟩ := info_parts Try.info3_block
  have hmk := make_pages
  have hb0 : Bld w.heap.size (w.alloc (.cells #[] 36)) w.heap.size 0 0 (flashNew.take 0) [] :=
    ⟨World.ownsRow_lit w #[] 0 (Nat.le_refl _) (by unfold maxLen; omega) rfl, ⟨rfl, Row.nil _ _, fun _ _ _ h _ => absurd h (by simp)⟩, ⟨fun b hb => by rw [blk_some] at hb; simp; omega, fun _ _ _ h _ => absurd h (by simp), fun _ _ _ _ _ h _ _ _ => absurd h (by simp)⟩⟩
  have hB0 : Below w.heap.size w (w.alloc (.cells #[] 36)) := (Below.refl _ _).alloc (Nat.le_refl _) _
  go_enter Try.func62, Try.ntmps62
  go_wp2
  go_loopw [1, 2] (fun v i wr => ∃ (k g c : Nat) (ks : List (Option Addr × Nat)), k ≤ 4 ∧ i = .int .i64 k ∧ v = .slice (some ⟨g, 0, none⟩) k c ∧ Below w.heap.size w wr ∧ Bld w.heap.size wr g k c (flashNew.take k) ks ∧ k ≤ c) (fun _ i _ => 4 - (intOf i).toNat)
  case atStart => exact ⟨0, _, 0, [], by omega, rfl, rfl, hB0, hb0, Nat.le_refl _⟩
  case round =>
    clear hb0 hB0
    obtain ⟨k, g, c, ks, hk, rfl, rfl, hb, hBd, hkc⟩ := hrel
    by_cases hlt : k < 4
    · have hown := hBd.own
      have hsz := hb.size
      have hgl := hBd.apt.top g (by rw [blk_some])
      have hR1 : Row (wr.alloc (.cells #[.int .i64 0, .int .i64 0, .int .i64 0, .int .i64 0, .int .i64 0, .int .i64 0, .int .i64 0, .int .i64 0, .int .i64 0, .int .i64 0, .int .i64 0, .int .i64 0, .int .i64 0, .int .i64 0, .int .i64 0, .int .i64 0, .int .i64 0, .int .i64 0, .int .i64 0, .int .i64 0] 42)) (some ⟨wr.heap.size, 0, none⟩) (pgs (List.replicate 4 pg0)) := Row.new wr #[.int .i64 0, .int .i64 0, .int .i64 0, .int .i64 0, .int .i64 0, .int .i64 0, .int .i64 0, .int .i64 0, .int .i64 0, .int .i64 0, .int .i64 0, .int .i64 0, .int .i64 0, .int .i64 0, .int .i64 0, .int .i64 0, .int .i64 0, .int .i64 0, .int .i64 0, .int .i64 0] _
      obtain ⟨W, hW⟩ : ∃ W, wr.alloc (.cells #[.int .i64 0, .int .i64 0, .int .i64 0, .int .i64 0, .int .i64 0, .int .i64 0, .int .i64 0, .int .i64 0, .int .i64 0, .int .i64 0, .int .i64 0, .int .i64 0, .int .i64 0, .int .i64 0, .int .i64 0, .int .i64 0, .int .i64 0, .int .i64 0, .int .i64 0, .int .i64 0] 42) = W := ⟨_, rfl⟩
      have hownW := hown.alloc (.cells #[.int .i64 0, .int .i64 0, .int .i64 0, .int .i64 0, .int .i64 0, .int .i64 0, .int .i64 0, .int .i64 0, .int .i64 0, .int .i64 0, .int .i64 0, .int .i64 0, .int .i64 0, .int .i64 0, .int .i64 0, .int .i64 0, .int .i64 0, .int .i64 0, .int .i64 0, .int .i64 0] 42)
      have hbW : Below wr.heap.size wr W := hW ▸ (Below.refl _ _).alloc (Nat.le_refl _) _
      have hsW : W.heap.size = wr.heap.size + 1 := by rw [← hW]; simp
      have hmkW := hmk wr
      rw [hW] at hR1 hownW hmkW
      have HSW := Lib.hid hsW
      have HK := Lib.hid hmk
      clear hmk hW hsW
      go_wp2_with (at_builtin; refine wpList_append_lies _ rfl (.tmp 8) (.tmp 11) _ rfl w.heap.size 36 ib _ 2 32 Try.underlying23 hib hbz0 hbz1 hbz2 rfl (by omega) (.slice (some ⟨g, 0, none⟩) k c) k (hdrs (flashNew.take k) ks) rfl (hownW.alloc (.cells #[.slice (some ⟨wr.heap.size, 0, none⟩) 4 4, .int .i64 0] 36)) ⟨W.heap.size, 0, none⟩ 1 1 [.slice (some ⟨wr.heap.size, 0, none⟩) 4 4, .int .i64 0] rfl rfl (World.news_of_block (cs := #[.slice (some ⟨wr.heap.size, 0, none⟩) 4 4, .int .i64 0]) (t := 36) (fr := (0, 0)) (heap_alloc_new W _)) (by simp [Value.oneCell']) (by omega) (by unfold maxLen; omega) (by omega) (by have := HSW.out; simp; omega) (W.heap.size + 1) (by simp) ?_; intro g2 c2 w2 hown2 hgrow2 hat2 hlt2)
      have hstep := hBd.step (b := newBlock) (c1 := 4) (n := 4) (by rfl) hsz hR1 (Nat.le_refl _) (Nat.le_refl _) (by have := HSW.out; omega) hbW hown2 hgrow2 hat2 hlt2
      rw [show flashNew.take k ++ [newBlock] = flashNew.take (k + 1) from by rw [List.take_add_one, show flashNew[k]? = some newBlock by rw [flashNew, List.getElem?_replicate, if_pos hlt]]; rfl] at hstep
      have hcap := ownsRow_cap hown2
      have hB2 := hb.trans (((hbW.mono hsz).alloc (by have := HSW.out; omega) _).grown hgrow2 (by have := HSW.out; simp; omega) (by intro q e; cases e; exact hgl.1))
      go_roundw
      case rel => exact ⟨k + 1, g2, c2, _, by omega, by go_num, rfl, hB2, hstep, hcap⟩
      case measure => simp [intOf]; omega
    · obtain rfl : k = 4 := by omega
      go_wp2
      go_ret
      exact ⟨g, c, rfl, hkc, ⟨ks, hBd.bks, hBd.apt⟩, hb⟩

/-- a store to a header's second cell: the wear -/
theorem wrote_worn {w : World} {g o i : Nat} {f : List Bk} {hs : List (Option Addr × Nat)} {b : Bk} {x : Option Addr × Nat} (h : Bks w (some ⟨g, o, none⟩) f hs) (hi : f[i]? = some b) (hx : hs[i]? = some x) (n : Int) :
    Wrote w (w.setCell ⟨g, o + i * 2 + 1, none⟩ (.int .i64 n)) g (o + i * 2) [.slice x.1 b.pages.length x.2, .int .i64 n] := by
  obtain ⟨y, hy, c0, c1, _⟩ := h.at_ hi
  rw [hx] at hy; cases hy
  exact (wrote_one c1 (.int .i64 n)).less c0
def wipeR (f : List Bk) (i : Nat) (torn : Bool) : List Bk × Bool := if 200 ≤ (f.getD i zbk).worn then (f, false) else (wipe f i torn, true)
set_option maxRecDepth 100000 in
theorem spec_l2Wipe' (f : List Bk) (i lo hi g o c : Nat) (torn : Bool) (w : World) (hl : f.length = 4) (hp : ∀ b ∈ f, b.pages.length = 4 ∧ 0 ≤ b.worn ∧ b.worn ≤ 200) (hi4 : i < 4) (hs : List (Option Addr × Nat)) (hBk : Bks w (some ⟨g, o, none⟩) f hs) (hApt : Apt lo hi (some ⟨g, o, none⟩) hs) :
    Calls Try.prog 38 #[.slice (some ⟨g, o, none⟩) 4 c, .int .i64 i, .bool torn] w fun e w' =>
      e = .returned (.tuple #[.slice (some ⟨g, o, none⟩) 4 c, .bool (wipeR f i torn).2]) ∧ Bks w' (some ⟨g, o, none⟩) (wipeR f i torn).1 hs ∧ Agr (fblk (some ⟨g, o, none⟩) hs) w w' := by
  obtain ⟨B, hB⟩ := get_some (l := f) (k := i) (by omega)
  have hBm := hp B (List.mem_of_getElem? hB)
  have hBget : f.getD i zbk = B := by rw [List.getD_eq_getElem?_getD, hB]; rfl
  obtain ⟨x, hx, z0, z1, z2, z3, hR, _⟩ := hBk.at_ hB
  obtain ⟨hw1, hw2, hw3⟩ := hBm
  have hg := hApt.top g (by rw [blk_some])
  have hi4' : (i : Int) < 4 := by omega
  have hi0 : (0 : Int) ≤ i := by omega
  by_cases h200 : 200 ≤ B.worn
  · have hfin : Hid (wipeR f i torn = (f, false)) := by unfold Hid wipeR; rw [hBget, if_pos h200]
    clear hl hp hBget hw1
    go_enter Try.func38, Try.ntmps38
    go_wp2
    go_ret2
    rw [hfin.out]
    exact ⟨rfl, hBk, Agr.refl _ _⟩
  · have hfin : Hid (wipeR f i torn = (wipe f i torn, true)) := by unfold Hid wipeR; rw [hBget, if_neg h200]
    have hlt : B.worn < 200 := by omega
    obtain ⟨⟨pb, po, hpa⟩, hpb⟩ : (∃ pb po, x.1 = some ⟨pb, po, none⟩) ∧ True := ⟨hR.addr (pgs_ne (by intro e; rw [e] at hw1; simp at hw1)), trivial⟩
    obtain ⟨A, cp⟩ := x
    dsimp only at hpa
    subst hpa
    dsimp only at *
    have hW := wrote_worn hBk hB hx (B.worn + 1)
    have hBk1 := hBk.setHdr hApt hB hx hW
    have hpin := hApt.in_ i _ pb hx (by rw [blk_some])
    rw [blk_some] at hpin
    have hW1 := Lib.hid hW.agr
    have HX := Lib.hid hx
    have HL := Lib.hid hl
    have HB := Lib.hid hB
    have HG := Lib.hid hBget
    have HW1 := Lib.hid hw1
    rw [hw1] at z0
    have hz0' := hW.new_ 0 _ rfl
    rw [Nat.add_zero, hw1] at hz0'
    clear hl hp hB hBget hx hw1 hpb hW
    go_enter Try.func38, Try.ntmps38
    cases torn
    · go_wp2
      go_loopw [9] (fun q wr => ∃ (k : Nat), k ≤ 4 ∧ q = .int .i64 k ∧ Bks wr (some ⟨g, o, none⟩) (f.set i ⟨List.replicate k ⟨0, rc0⟩ ++ B.pages.drop k, B.worn + 1⟩) hs ∧ Agr (fblk (some ⟨g, o, none⟩) hs) w wr ∧ wr.cell? ⟨g, o + i * 2, none⟩ = some (.slice (some ⟨pb, po, none⟩) 4 cp)) (fun q _ => 4 - (intOf q).toNat)
      case atStart => exact ⟨0, by omega, rfl, hBk1, (Agr.refl _ _).trans hW1.out (fun k _ e => .inl (by rw [e, blk_some])), hz0'⟩
      case round =>
        clear hBk1 hz0'
        obtain ⟨k, hk, rfl, hBk2, hA, hz⟩ := hrel
        by_cases hltk : k < 4
        · have hk4' : (k : Int) < 4 := by omega
          have hget : (f.set i ⟨List.replicate k ⟨0, rc0⟩ ++ B.pages.drop k, B.worn + 1⟩)[i]? = some ⟨List.replicate k ⟨0, rc0⟩ ++ B.pages.drop k, B.worn + 1⟩ := by rw [List.getElem?_set_self (by have := HL.out; omega)]
          obtain ⟨hr2, _⟩ := hBk2.pg i _ _ hget HX.out
          obtain ⟨q, hq⟩ := get_some (l := List.replicate k (⟨0, rc0⟩ : Pg) ++ B.pages.drop k) (k := k) (by have := HW1.out; simp; omega)
          obtain ⟨c0, c1, c2, c3, c4⟩ := hr2.pg hq
          obtain ⟨f0, f1, f2, f3, f4⟩ := hr2.pgf hq
          have hWp := wrote_page hr2 hq ⟨0, rc0⟩
          have hBk3 := hBk2.setPage hApt hget HX.out (by have := HW1.out; simp; omega) hWp
          rw [List.set_set] at hBk3
          dsimp only at hBk3
          rw [fill_step _ _ _ (by have := HW1.out; omega)] at hBk3
          have hA3 := hA.trans hWp.agr (fun j _ e => .inr ⟨i, _, HX.out, by rw [e, blk_some]⟩)
          have hz3 := (hWp.block g (by omega))
          have HQ := Lib.hid hq
          have HGT := Lib.hid hget
          have hz4 := (World.cell?_of_block (a := ⟨g, o + i * 2, none⟩) hz3).trans hz
          simp only [rc0] at hBk3 hA3 hz4
          clear hq hget hz3 hWp
          go_wp2
          go_roundw
          case rel => exact ⟨k + 1, by omega, by go_num, hBk3, hA3, hz4⟩
          case measure => simp [intOf]; omega
        · obtain rfl : k = 4 := by omega
          go_wp2
          go_ret2
          rw [hfin.out]
          rw [show B.pages.drop 4 = [] from List.drop_of_length_le (by have := HW1.out; omega), List.append_nil] at hBk2
          exact ⟨rfl, by unfold wipe; rw [HG.out]; exact hBk2, hA⟩
    · go_wp2
      go_loopw [9] (fun q wr => ∃ (k : Nat), k ≤ 4 ∧ q = .int .i64 k ∧ Bks wr (some ⟨g, o, none⟩) (f.set i ⟨List.replicate k ⟨2, rc0⟩ ++ B.pages.drop k, B.worn + 1⟩) hs ∧ Agr (fblk (some ⟨g, o, none⟩) hs) w wr ∧ wr.cell? ⟨g, o + i * 2, none⟩ = some (.slice (some ⟨pb, po, none⟩) 4 cp)) (fun q _ => 4 - (intOf q).toNat)
      case atStart => exact ⟨0, by omega, rfl, hBk1, (Agr.refl _ _).trans hW1.out (fun k _ e => .inl (by rw [e, blk_some])), hz0'⟩
      case round =>
        clear hBk1 hz0'
        obtain ⟨k, hk, rfl, hBk2, hA, hz⟩ := hrel
        by_cases hltk : k < 4
        · have hk4' : (k : Int) < 4 := by omega
          have hget : (f.set i ⟨List.replicate k ⟨2, rc0⟩ ++ B.pages.drop k, B.worn + 1⟩)[i]? = some ⟨List.replicate k ⟨2, rc0⟩ ++ B.pages.drop k, B.worn + 1⟩ := by rw [List.getElem?_set_self (by have := HL.out; omega)]
          obtain ⟨hr2, _⟩ := hBk2.pg i _ _ hget HX.out
          obtain ⟨q, hq⟩ := get_some (l := List.replicate k (⟨2, rc0⟩ : Pg) ++ B.pages.drop k) (k := k) (by have := HW1.out; simp; omega)
          obtain ⟨c0, c1, c2, c3, c4⟩ := hr2.pg hq
          obtain ⟨f0, f1, f2, f3, f4⟩ := hr2.pgf hq
          have hWp := wrote_page hr2 hq ⟨2, rc0⟩
          have hBk3 := hBk2.setPage hApt hget HX.out (by have := HW1.out; simp; omega) hWp
          rw [List.set_set] at hBk3
          dsimp only at hBk3
          rw [fill_step _ _ _ (by have := HW1.out; omega)] at hBk3
          have hA3 := hA.trans hWp.agr (fun j _ e => .inr ⟨i, _, HX.out, by rw [e, blk_some]⟩)
          have hz3 := (hWp.block g (by omega))
          have HQ := Lib.hid hq
          have HGT := Lib.hid hget
          have hz4 := (World.cell?_of_block (a := ⟨g, o + i * 2, none⟩) hz3).trans hz
          simp only [rc0] at hBk3 hA3 hz4
          clear hq hget hz3 hWp
          go_wp2
          go_roundw
          case rel => exact ⟨k + 1, by omega, by go_num, hBk3, hA3, hz4⟩
          case measure => simp [intOf]; omega
        · obtain rfl : k = 4 := by omega
          go_wp2
          go_ret2
          rw [hfin.out]
          rw [show B.pages.drop 4 = [] from List.drop_of_length_le (by have := HW1.out; omega), List.append_nil] at hBk2
          exact ⟨rfl, by unfold wipe; rw [HG.out]; exact hBk2, hA⟩
theorem spec_l2Wipe (f : List Bk) (i lo hi g o c : Nat) (torn : Bool) (w : World) (hl : f.length = 4) (hp : ∀ b ∈ f, b.pages.length = 4 ∧ 0 ≤ b.worn ∧ b.worn ≤ 200) (hi4 : i < 4) (hF : OFl w lo hi (some ⟨g, o, none⟩) f) :
    Calls Try.prog 38 #[.slice (some ⟨g, o, none⟩) 4 c, .int .i64 i, .bool torn] w fun e w' =>
      e = .returned (.tuple #[.slice (some ⟨g, o, none⟩) 4 c, .bool (wipeR f i torn).2]) ∧ OFl w' lo hi (some ⟨g, o, none⟩) (wipeR f i torn).1 ∧ Agr (fun b => lo ≤ b ∧ b < hi) w w' := by
  obtain ⟨hs, hBk, hApt⟩ := hF
  refine (spec_l2Wipe' f i lo hi g o c torn w hl hp hi4 hs hBk hApt).mono ?_
  rintro e w1 ⟨h1, h2, h3⟩
  exact ⟨h1, ⟨hs, h2, hApt⟩, h3.mono fun b hb => hApt.fblk hb⟩

theorem ofl_empty {w : World} {lo hi g : Nat} (h1 : lo ≤ g) (h2 : g < hi) : OFl w lo hi (some ⟨g, 0, none⟩) [] :=
  ⟨[], ⟨rfl, Row.nil _ _, fun _ _ _ h _ => absurd h (by simp)⟩, ⟨fun b h => by rw [blk_some] at h; omega, fun _ _ _ h _ => absurd h (by simp), fun _ _ _ _ _ h _ _ _ => absurd h (by simp)⟩⟩
theorem wipeR_eq {f : List Bk} {i : Nat} {torn : Bool} (hok : flashOk f = true) (hi : i < 4) : flashWipe f i torn = wipeR f i torn := by
  have hl := flashOk_len hok
  obtain ⟨B, hB⟩ := get_some (l := f) (k := i) (by omega)
  have hs := flashOk_shape hok B (List.mem_of_getElem? hB)
  have hBget : f.getD i zbk = B := by rw [List.getD_eq_getElem?_getD, hB]; rfl
  unfold flashWipe wipeR
  rw [if_neg (by rw [hok]; unfold blockB; simp; omega), Int.toNat_natCast, hBget]
  by_cases h : B.worn = 200
  · rw [if_pos h, if_pos (by omega)]
  · rw [if_neg h, if_neg (by omega)]
theorem wipeR_len (f : List Bk) (i : Nat) (torn : Bool) : (wipeR f i torn).1.length = f.length := by
  unfold wipeR wipe
  split <;> simp
theorem spec_FlashWipe (f : List Bk) (block : Int) (torn : Bool) (A : Option Addr) (c : Nat) (w : World) (hlen : f.length < 1000000000000) (hF : Fl w A f) :
    Calls Try.prog 16 #[.slice A f.length c, .int .i64 block, .bool torn] w (FlPost (flashWipe f block torn) w) := by
  by_cases hok : flashOk f = true
  · by_cases hbo : blockB block = true
    · have hb04 : 0 ≤ block ∧ block < 4 := by unfold blockB at hbo; simpa using hbo
      obtain ⟨i, rfl⟩ := Int.eq_ofNat_of_zero_le hb04.1
      have hi4 : i < 4 := by omega
      have HL := Lib.hid (flashOk_len hok)
      have HSH := Lib.hid (flashOk_shape hok)
      have HWR := Lib.hid (wipeR_eq (torn := torn) hok hi4)
      have hd : (decide ((0 : Int) ≤ i) && decide ((i : Int) ≤ 3)) = true := by simp; omega
      clear hb04
      go_enter Try.func16, Try.ntmps16
      go_wp2_with fail
      refine (spec_FlashOk f A c _ hlen hF).mono ?_
      rintro e w1 ⟨rfl, hb⟩
      rw [hok]
      go_wp2_with fail
      refine (spec_l6In _ _ _ _).mono ?_
      rintro e w2 ⟨rfl, rfl⟩
      rw [hd]
      go_wp2_with fail
      rw [HL.out]
      refine (spec_l2Copy A c f _ HL.out (fun b hb => (HSH.out b hb).1) (hF.below hb (Nat.le_refl _))).mono ?_
      rintro e w3 ⟨g, c', rfl, hc', hO, hb3⟩
      go_wp2_with fail
      refine (spec_l2Wipe f i w1.heap.size w3.heap.size g 0 c' torn _ HL.out HSH.out hi4 hO).mono ?_
      rintro e w4 ⟨rfl, hO4, hA4⟩
      have hB4 : Below w.heap.size w w4 := (hb.trans (hb3.mono hb.size)).trans (hA4.below (Nat.le_trans hb.size hb3.size) (fun j hj => Nat.le_trans hb.size hj.1))
      go_wp2
      go_ret2
      rw [HWR.out]
      exact ⟨some ⟨g, 0, none⟩, c', ret_sl (by rw [wipeR_len, HL.out]), by rw [wipeR_len, HL.out]; exact hc', hO4.mono hb.size hA4.size, hB4⟩
    · have hfin : Hid (flashWipe f block torn = ([], false)) := by unfold Hid flashWipe; simp [hbo]
      have hd : (decide (0 ≤ block) && decide (block ≤ 3)) = false := by unfold blockB at hbo; simp at hbo ⊢; omega
      go_enter Try.func16, Try.ntmps16
      go_wp2_with fail
      refine (spec_FlashOk f A c _ hlen hF).mono ?_
      rintro e w1 ⟨rfl, hb⟩
      rw [hok]
      go_wp2_with fail
      refine (spec_l6In _ _ _ _).mono ?_
      rintro e w2 ⟨rfl, rfl⟩
      rw [hd]
      go_wp2
      go_ret2
      rw [hfin.out]
      exact ⟨some ⟨w1.heap.size, 0, none⟩, 0, rfl, Nat.le_refl _, ofl_empty hb.size (by simp), hb.alloc hb.size _⟩
  · have hfin : Hid (flashWipe f block torn = ([], false)) := by unfold Hid flashWipe; simp [hok]
    have ho : flashOk f = false := by simpa using hok
    go_enter Try.func16, Try.ntmps16
    go_wp2_with fail
    refine (spec_FlashOk f A c _ hlen hF).mono ?_
    rintro e w1 ⟨rfl, hb⟩
    rw [ho]
    go_wp2
    go_ret2
    rw [hfin.out]
    exact ⟨some ⟨w1.heap.size, 0, none⟩, 0, rfl, Nat.le_refl _, ofl_empty hb.size (by simp), hb.alloc hb.size _⟩
end Go.Proofs.Ytlchlhjjoddocaa
