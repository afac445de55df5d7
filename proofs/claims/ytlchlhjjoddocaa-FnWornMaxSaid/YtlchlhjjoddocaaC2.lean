/- Walks: a new flash, a flash wiped. -/
import Derived.Test.YtlchlhjjoddocaaC
import Derived.Deep.RegionLaw
namespace Go.Proofs.Ytlchlhjjoddocaa
set_option linter.unusedVariables false
set_option linter.unusedSimpArgs false
open Go.RowKit Go.Maps
set_option maxHeartbeats 400000
def pg0 : Pg := ⟨0, rc0⟩
def newBlock : Bk := ⟨List.replicate 4 pg0, 0⟩
def flashNew : List Bk := List.replicate 4 newBlock
theorem impl_FlashNew (w : World) :
    Calls Try.prog 14 #[] w fun e w' => ∃ g, e = .returned (.slice (some ⟨g, 0, none⟩) 4 4) ∧ OFl w' w.heap.size w'.heap.size (some ⟨g, 0, none⟩) flashNew ∧ Below w.heap.size w w' := by
  have hmk := make_blocks
  have hnew := Bks.new w 4 36 #[.slice none 0 0, .int .i64 0, .slice none 0 0, .int .i64 0, .slice none 0 0, .int .i64 0, .slice none 0 0, .int .i64 0] rfl
  have hB0 : Below w.heap.size w (w.alloc (.cells #[.slice none 0 0, .int .i64 0, .slice none 0 0, .int .i64 0, .slice none 0 0, .int .i64 0, .slice none 0 0, .int .i64 0] 36)) := (Below.refl _ _).alloc (Nat.le_refl _) _
  go_enter Try.func14, Try.ntmps14
  go_wp2
  go_loopw [6] (fun i wr => ∃ (k : Nat) (ks : List (Option Addr × Nat)), k ≤ 4 ∧ i = .int .i64 k ∧ Below w.heap.size w wr ∧ w.heap.size < wr.heap.size ∧ Bks wr (some ⟨w.heap.size, 0, none⟩) (flashNew.take k ++ (List.replicate 4 zbk).drop k) ks ∧ Apt w.heap.size wr.heap.size (some ⟨w.heap.size, 0, none⟩) ks) (fun i _ => 4 - (intOf i).toNat)
  case atStart => exact ⟨0, _, by omega, rfl, hB0, by simp, hnew, (Apt.new _ _).mono (Nat.le_refl _) (by simp)⟩
  case round =>
    clear hnew hB0
    obtain ⟨k, ks, hk, rfl, hb, hsz, hBk, hApt⟩ := hrel
    by_cases hlt : k < 4
    · have HG : Hid ((flashNew.take k ++ (List.replicate 4 zbk).drop k)[k]? = some zbk) := by
        rw [Hid, List.getElem?_append_right (by simp [flashNew]; omega), List.getElem?_drop, List.getElem?_replicate, if_pos (by simp [flashNew]; omega)]
      go_wp2_with fail
      refine (impl_pagesOf pg0 _).mono ?_
      rintro e w1 ⟨b, rfl, h1, h2, h3, h4⟩
      have hBk1 := hBk.below h4 (Nat.le_refl _)
      obtain ⟨_, _, z0, z1, z2, z3, _, _⟩ := hBk1.at_ HG.out
      have hW := (wrote_one z0 (.slice (some ⟨b, 0, none⟩) 4 4)).more z1
      have hR2 := hBk1.setBlock (i := k) (x := (some ⟨b, 0, none⟩, 4)) (c := newBlock) (by simp [flashNew]; omega) (fun j y hy e => (hApt.in_ j y _ hy e).2.2 rfl) (by rw [blk_some]; omega) h3 (by simp [newBlock]) hW
      rw [copy_step zbk flashNew 4 k newBlock (by rw [flashNew, List.getElem?_replicate, if_pos hlt]) rfl] at hR2
      have hApt2 := hApt.set (hi' := w1.heap.size) k (some ⟨b, 0, none⟩, 4) (fun c hc => by rw [blk_some] at hc; subst hc; exact ⟨by omega, h2⟩) (by omega) (by omega)
      have hB2 : Below w.heap.size w w1 := hb.trans (h4.mono (by omega))
      have hB3 := hB2.trans (hW.agr.below (B := w.heap.size) hB2.size (fun i e => by rw [e]; exact Nat.le_refl _))
      have hs4 : w.heap.size < w1.heap.size := by omega
      rw [Nat.zero_add] at z0 z1 z2 z3 hR2 hB3
      have HS3 := Lib.hid hW.size
      rw [Nat.zero_add] at HS3
      clear hW hB2 hBk1 hBk h4
      go_wp2
      go_roundw
      case rel => exact ⟨k + 1, _, by omega, by go_num, hB3, by rw [HS3.out]; exact hs4, hR2, by rw [HS3.out]; exact hApt2⟩
      case measure => simp [intOf]; omega
    · obtain rfl : k = 4 := by omega
      go_wp2
      go_ret
      exact ⟨_, rfl, ⟨ks, hBk, hApt⟩, hb⟩

/-- block i wiped -/
def wipe (f : List Bk) (i : Nat) (torn : Bool) : List Bk :=
  f.set i ⟨List.replicate 4 (if torn then ⟨2, rc0⟩ else pg0), (f.getD i zbk).worn + 1⟩
/-- what FlashWipe answers, of an ok flash and a block that is there -/
def flashWipe (f : List Bk) (block : Int) (torn : Bool) : List Bk × Bool :=
  if flashOk f = false ∨ blockB block = false then ([], false) else if (f.getD block.toNat zbk).worn = 200 then (f, false) else (wipe f block.toNat torn, true)
/-- two results: a flash of the call's own, and a bool -/
def FlPost (r : List Bk × Bool) (w : World) (e : Ending) (w' : World) : Prop :=
  ∃ A c, e = .returned (.tuple #[.slice A r.1.length c, .bool r.2]) ∧ r.1.length ≤ c ∧ OFl w' w.heap.size w'.heap.size A r.1 ∧ Below w.heap.size w w'
theorem ofl_nil (w : World) (lo hi : Nat) : OFl w lo hi none [] :=
  ⟨[], ⟨rfl, Row.nil _ _, fun _ _ _ h _ => absurd h (by simp)⟩, ⟨fun _ h => (by cases h), fun _ _ _ h _ => absurd h (by simp), fun _ _ _ _ _ h _ _ _ => absurd h (by simp)⟩⟩
/-- block i of a flash of one's own is replaced by newer pages -/
theorem OFl.replaced {w3 w4 w5 : World} {lo g b i n : Nat} {f : List Bk} {hs : List (Option Addr × Nat)} {c : Bk} (hBk : Bks w3 (some ⟨g, 0, none⟩) f hs) (hApt : Apt lo w3.heap.size (some ⟨g, 0, none⟩) hs) (hi : i < f.length)
    (h1 : w3.heap.size ≤ b) (h2 : b < w4.heap.size) (h3 : Row w4 (some ⟨b, 0, none⟩) (pgs c.pages)) (h4 : Below w3.heap.size w3 w4) (hc : c.pages.length = n) (hlo : lo ≤ w3.heap.size) (hW : Wrote w4 w5 g (0 + i * 2) [.slice (some ⟨b, 0, none⟩) n n, .int .i64 c.worn]) :
    OFl w5 lo w5.heap.size (some ⟨g, 0, none⟩) (f.set i c) ∧ Below lo w3 w5 := by
  subst hc
  have hBk1 := hBk.below h4 (Nat.le_refl _)
  have hg := hApt.top g (by rw [blk_some])
  have hs4 := h4.size
  refine ⟨⟨_, hBk1.setBlock (i := i) (x := (some ⟨b, 0, none⟩, c.pages.length)) (c := c) hi (fun j y hy e => (hApt.in_ j y _ hy e).2.2 rfl) (by rw [blk_some]; omega) h3 (Nat.le_refl _) hW, ?_⟩, ?_⟩
  · rw [hW.size]
    exact hApt.set (hi' := w4.heap.size) i _ (fun d hd => by rw [blk_some] at hd; omega) hlo (by omega)
  · exact (h4.mono hlo).trans (hW.agr.below (by omega) (fun k e => by rw [e]; exact hg.1))
theorem impl_FlashWipe (f : List Bk) (block : Int) (torn : Bool) (A : Option Addr) (c : Nat) (w : World) (hF : Fl w A f) :
    Calls Try.prog 13 #[.slice A f.length c, .int .i64 block, .bool torn] w (FlPost (flashWipe f block torn) w) := by
  by_cases hok : flashOk f = true
  · by_cases hbo : blockB block = true
    · have hb04 : 0 ≤ block ∧ block < 4 := by unfold blockB at hbo; simpa using hbo
      obtain ⟨i, rfl⟩ := Int.eq_ofNat_of_zero_le hb04.1
      have hi4 : i < 4 := by omega
      have hl := flashOk_len hok
      have hsh := flashOk_shape hok
      have HL := Lib.hid hl
      obtain ⟨B, hB⟩ := get_some (l := f) (k := i) (by omega)
      have hBm := hsh B (List.mem_of_getElem? hB)
      have hBget : f.getD i zbk = B := by rw [List.getD_eq_getElem?_getD, hB]; rfl
      have HSH := Lib.hid hsh
      clear hsh hb04 hl
      go_enter Try.func13, Try.ntmps13
      go_wp2_with fail
      refine (impl_FlashOk f A c _ hF).mono ?_
      rintro e w1 ⟨rfl, hb⟩
      rw [hok]
      go_wp2_with fail
      refine (impl_blockOk _ _).mono ?_
      rintro e w2 ⟨rfl, rfl⟩
      rw [hbo]
      go_wp2_with fail
      rw [HL.out]
      refine (impl_flashCopy A c f _ HL.out (fun b hb => (HSH.out b hb).1) (hF.below hb (Nat.le_refl _))).mono ?_
      rintro e w3 ⟨g, rfl, ⟨hs, hBk, hApt⟩, hb3⟩
      obtain ⟨x, hx, z0, z1, z2, z3, hR, _⟩ := hBk.at_ hB
      rw [Nat.zero_add] at z0 z1 z2 z3
      obtain ⟨hw1, hw2, hw3⟩ := hBm
      have hB3 : Below w.heap.size w w3 := hb.trans (hb3.mono hb.size)
      have hg := hApt.top g (by rw [blk_some])
      by_cases h200 : B.worn = 200
      · have hfin : Hid (flashWipe f i torn = (f, false)) := by unfold Hid flashWipe; rw [hok, hbo, Int.toNat_natCast, hBget]; simp [h200]
        rw [h200] at z1
        go_wp2
        go_ret2
        rw [hfin.out]
        exact ⟨some ⟨g, 0, none⟩, 4, ret_sl HL.out.symm, by rw [HL.out]; exact Nat.le_refl _, ⟨hs, hBk, hApt.mono hb.size (Nat.le_refl _)⟩, hB3⟩
      · have hfin : Hid (flashWipe f i torn = (wipe f i torn, true)) := by unfold Hid flashWipe; rw [hok, hbo, Int.toNat_natCast, hBget]; simp [h200]
        have hlt : B.worn < 200 := by omega
        have hi4' : (i : Int) < 4 := by omega
        have hi0 : (0 : Int) ≤ i := by omega
        have hwr : IntKind.i64.wrap (B.worn + 1) = B.worn + 1 := IntWalk.i64_in _ (by omega)
        cases torn
        · go_wp2
          go_region_law (first | (go_simp; go_at_call 36; refine (impl_pagesOf ⟨0, rc0⟩ _).mono ?_; rintro e w4 ⟨b, rfl, h1, h2, h3, h4⟩; replace h4 := undrew h4; have y1 := (h4.cell (p := ⟨g, i * 2 + 1, none⟩) hg.2).trans z1; have y0 := (h4.cell (p := ⟨g, i * 2, none⟩) hg.2).trans z0; have y2 := (h4.frozen (p := ⟨g, i * 2, none⟩) hg.2).trans z2; have y3 := (h4.frozen (p := ⟨g, i * 2 + 1, none⟩) hg.2).trans z3))
          all_goals
            have hBk1 := hBk.below h4 (Nat.le_refl _)
            have hW := wrote_hdr hBk1 hB (.slice (some ⟨b, 0, none⟩) 4 4) (.int .i64 (B.worn + 1))
            obtain ⟨hO, hb5⟩ := OFl.replaced (c := ⟨List.replicate 4 ⟨0, rc0⟩, B.worn + 1⟩) hBk hApt (by have := HL.out; omega) h1 h2 h3 h4 (by simp) hb3.size hW
            rw [Nat.zero_add] at hO hb5
            have hBf : Below w.heap.size w _ := hB3.trans (hb5.mono hb.size)
            have hO' := hO.mono hb.size (Nat.le_refl _)
            clear hO hb5 hW hBk1
            go_wp2
            go_ret2
            rw [hfin.out]
            have el : (wipe f i false).length = 4 := by unfold wipe; rw [List.length_set]; exact HL.out
            exact ⟨some ⟨g, 0, none⟩, 4, ret_sl el.symm, by rw [el]; exact Nat.le_refl _, by unfold wipe; rw [hBget]; exact hO', hBf⟩
        · go_wp2
          go_region_law (first | (go_simp; go_at_call 36; refine (impl_pagesOf ⟨2, rc0⟩ _).mono ?_; rintro e w4 ⟨b, rfl, h1, h2, h3, h4⟩; replace h4 := undrew h4; have y1 := (h4.cell (p := ⟨g, i * 2 + 1, none⟩) hg.2).trans z1; have y0 := (h4.cell (p := ⟨g, i * 2, none⟩) hg.2).trans z0; have y2 := (h4.frozen (p := ⟨g, i * 2, none⟩) hg.2).trans z2; have y3 := (h4.frozen (p := ⟨g, i * 2 + 1, none⟩) hg.2).trans z3))
          all_goals
            have hBk1 := hBk.below h4 (Nat.le_refl _)
            have hW := wrote_hdr hBk1 hB (.slice (some ⟨b, 0, none⟩) 4 4) (.int .i64 (B.worn + 1))
            obtain ⟨hO, hb5⟩ := OFl.replaced (c := ⟨List.replicate 4 ⟨2, rc0⟩, B.worn + 1⟩) hBk hApt (by have := HL.out; omega) h1 h2 h3 h4 (by simp) hb3.size hW
            rw [Nat.zero_add] at hO hb5
            have hBf : Below w.heap.size w _ := hB3.trans (hb5.mono hb.size)
            have hO' := hO.mono hb.size (Nat.le_refl _)
            clear hO hb5 hW hBk1
            go_wp2
            go_ret2
            rw [hfin.out]
            have el : (wipe f i true).length = 4 := by unfold wipe; rw [List.length_set]; exact HL.out
            exact ⟨some ⟨g, 0, none⟩, 4, ret_sl el.symm, by rw [el]; exact Nat.le_refl _, by unfold wipe; rw [hBget]; exact hO', hBf⟩
    · have hfin : Hid (flashWipe f block torn = ([], false)) := by unfold Hid flashWipe; simp [hbo]
      have ho : blockB block = false := by simpa using hbo
      go_enter Try.func13, Try.ntmps13
      go_wp2_with fail
      refine (impl_FlashOk f A c _ hF).mono ?_
      rintro e w1 ⟨rfl, hb⟩
      rw [hok]
      go_wp2_with fail
      refine (impl_blockOk _ _).mono ?_
      rintro e w2 ⟨rfl, rfl⟩
      rw [ho]
      go_wp2
      go_ret2
      rw [hfin.out]
      exact ⟨none, 0, rfl, Nat.le_refl _, ofl_nil _ _ _, hb⟩
  · have hfin : Hid (flashWipe f block torn = ([], false)) := by unfold Hid flashWipe; simp [hok]
    have ho : flashOk f = false := by simpa using hok
    go_enter Try.func13, Try.ntmps13
    go_wp2_with fail
    refine (impl_FlashOk f A c _ hF).mono ?_
    rintro e w1 ⟨rfl, hb⟩
    rw [ho]
    go_wp2
    go_ret2
    rw [hfin.out]
    exact ⟨none, 0, rfl, Nat.le_refl _, ofl_nil _ _ _, hb⟩
end Go.Proofs.Ytlchlhjjoddocaa
