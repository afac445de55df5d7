/- Walks: FnWipeAll. -/
import Derived.Test.YtlchlhjjoddocaaQ6
namespace Go.Proofs.Ytlchlhjjoddocaa
set_option linter.unusedVariables false
set_option linter.unusedSimpArgs false
open Go.RowKit Go.Maps
set_option maxHeartbeats 400000
def wipeN (f : List Bk) : Nat → List Bk
  | 0 => f
  | j + 1 => wipe (wipeN f j) j false
theorem wipeN_len (f : List Bk) : ∀ j, (wipeN f j).length = f.length
  | 0 => rfl
  | j + 1 => by rw [wipeN, wipe_len]; exact wipeN_len f j
theorem wipeN_ge (f : List Bk) : ∀ j m : Nat, j ≤ m → (wipeN f j)[m]? = f[m]?
  | 0, _, _ => rfl
  | j + 1, m, h => by rw [wipeN, wipe_ne (by omega)]; exact wipeN_ge f j m (by omega)
theorem wipeN_lt {f : List Bk} {b : Bk} : ∀ (j m : Nat), m < j → f[m]? = some b → (wipeN f j)[m]? = some ⟨List.replicate 4 pg0, b.worn + 1⟩
  | 0, _, h, _ => absurd h (by omega)
  | j + 1, m, h, hb => by
    rw [wipeN]
    by_cases hm : m = j
    · subst hm
      rw [wiped_b (b := b) (by rw [wipeN_ge f m m (Nat.le_refl _)]; exact hb) false]
      rfl
    · rw [wipe_ne hm]; exact wipeN_lt j m (by omega) hb
theorem wipeN_pages {f : List Bk} (h : ∀ b ∈ f, b.pages.length < 1000000000000) : ∀ j, ∀ b ∈ wipeN f j, b.pages.length < 1000000000000
  | 0 => h
  | j + 1 => fun b hb => by
    unfold wipeN wipe at hb
    rcases mem_set hb with hb | rfl
    · exact wipeN_pages h j b hb
    · simp
set_option maxHeartbeats 4000000 in
set_option maxRecDepth 100000 in
theorem law_FnWipeAll {w : World} (A : Option Addr) (bs : List Nat) (c : Nat) (hc : Code w A bs c) :
    Calls Try.prog 4 #[.slice A bs.length c] w fun e w' => e = .returned (.bool true) ∧ Below w.heap.size w w' := by
  by_cases hlen : (1048576 : Int) < bs.length
  · go_enter Try.func4, Try.ntmps4
    go_wp2
    go_ret
    exact ⟨rfl, Below.refl _ _⟩
  · go_enter Try.func4, Try.ntmps4
    go_wp2_with fail
    refine (spec_DrawFlashWipe A bs c _ hc).mono ?_
    rintro e w1 ⟨g, o, d, f, n, t, rfl, ⟨hn1, hn2⟩, hf, hO1, hb1⟩
    have hs1 := hb1.size
    have hF := Lib.hid hf
    have hB1 := hb1
    clear hf hb1
    go_wp2_with fail
    refine (spec_FlashWipe f n t _ d _ (small_len hF.out) hO1.fl).mono ?_
    rintro e w2 ⟨A2, c2, rfl, _, hO2, hb2⟩
    have hs2 := hb2.size
    have hO12 := hO1.below hb2 (Nat.le_refl _)
    have hB2 := hB1.trans (hb2.mono (by omega))
    clear hO1 hb2 hB1
    go_wp2_with fail
    refine (impl_FlashWipe f n t _ d _ hO12.fl).mono ?_
    rintro e w3 ⟨A3, c3, rfl, _, hO3, hb3⟩
    have hs3 := hb3.size
    have hO13 := hO12.below hb3 (Nat.le_refl _)
    have hO23 := hO2.below hb3 (Nat.le_refl _)
    have hB3 := hB2.trans (hb3.mono (by omega))
    clear hO12 hO2 hb3 hB2
    have hRl := wiped_len f n t hF.out.1
    have hRp := Lib.hid (wiped_pages f n t fun b hb => (hF.out.2.2 b hb).1)
    have hRd : Hid (flashWipe f n t = if flashOk f = false ∨ blockB n = false then ([], false) else if (f.getD n.toNat zbk).worn = 200 then (f, false) else (wipe f n.toNat t, true)) := rfl
    generalize hR : flashWipe f n t = R at *
    clear hR
    obtain ⟨x, ok⟩ := R
    dsimp only at *
    have hRp' := Lib.hid (show ∀ b ∈ x, b.pages.length < 1000000000000 from fun b hb => by have := hRp.out b hb; omega)
    go_wp2_with fail
    refine (laws_lqFlash A3 A2 _ _ c3 c2 x _ rfl rfl (by omega) hRp'.out hO3.fl hO23.fl).mono ?_
    rintro e w4 ⟨rfl, hb4⟩
    have hs4 := hb4.size
    have hO14 := hO13.below hb4 (Nat.le_refl _)
    have hO24 := hO23.below hb4 (Nat.le_refl _)
    have hO34 := hO3.below hb4 (Nat.le_refl _)
    have hB4 := hB3.trans (hb4.mono (by omega))
    clear hO13 hO23 hO3 hb4 hB3
    go_wp2_with fail
    refine (spec_FlashOk f _ d _ (small_len hF.out) hO14.fl).mono ?_
    rintro e w5 ⟨rfl, hb5⟩
    have hs5 := hb5.size
    have hO15 := hO14.below hb5 (Nat.le_refl _)
    have hO25 := hO24.below hb5 (Nat.le_refl _)
    have hO35 := hO34.below hb5 (Nat.le_refl _)
    have hB5 := hB4.trans (hb5.mono (by omega))
    clear hO14 hO24 hO34 hb5 hB4
    by_cases hfo : flashOk f = true
    · rw [hfo]
      have hfl := flashOk_len hfo
      have HFO := Lib.hid hfo
      have HFL := Lib.hid hfl
      have hwn := Lib.hid (fun b hb => (flashOk_shape hfo b hb).2)
      have hi5 : w1.heap.size ≤ w5.heap.size := by omega
      clear hRd hRp hRp' hO25 hO35 hfo hfl
      go_wp2_with fail
      refine (impl_FlashNew _).mono ?_
      rintro e w6 ⟨ng, rfl, hO6, hb6⟩
      have hs6 := hb6.size
      have hO16 := hO15.below hb6 (Nat.le_refl _)
      have hB6 := hB5.trans (hb6.mono (by omega))
      clear hO15 hb6 hB5
      go_wp2
      go_loopw [10, 12] (fun y q wr => ∃ (j : Nat) (A' : Option Addr) (c' lo hi : Nat), j ≤ 4 ∧ q = .int .i64 j ∧ y = .slice A' 4 c' ∧ OFl wr lo hi A' (wipeN f j) ∧ Hid (flashOk (wipeN f j) = true) ∧ OFl wr w.heap.size w1.heap.size (some ⟨g, o, none⟩) f ∧ OFl wr w5.heap.size w6.heap.size (some ⟨ng, 0, none⟩) flashNew ∧ w6.heap.size ≤ wr.heap.size ∧ Below w.heap.size w wr) (fun _ q _ => 4 - (intOf q).toNat)
      case atStart => exact ⟨0, _, d, _, _, by omega, rfl, by rw [HFL.out], hO16, HFO, hO16, hO6, Nat.le_refl _, hB6⟩
      case round =>
        obtain ⟨j, A', c', lo, hi, hj, rfl, rfl, hOy, hok, hOf, hOn, hsz, hB⟩ := hrel
        by_cases hj4 : j < 4
        · have hj4' : (j : Int) < 4 := by omega
          obtain ⟨b, hb⟩ := get_some (l := f) (k := j) (by rw [HFL.out]; exact hj4)
          have hbw := hwn.out b (List.mem_of_getElem? hb)
          have hY := wipeN_ge f j j (Nat.le_refl _)
          rw [hb] at hY
          have h1 := flashWipe_eq hok.out hj4 false
          rw [getD_of hY] at h1
          have H1 := Lib.hid h1
          have hyl : 4 = (wipeN f j).length := by rw [wipeN_len, HFL.out]
          have HYL := Lib.hid hyl
          have hwo : b.worn ≠ 200 → flashOk (wipe (wipeN f j) j false) = true := fun h => wiped_ok hok.out hj4 false (by rw [getD_of hY]; exact h)
          have HWO := Lib.hid hwo
          obtain ⟨fs, hBk, _⟩ := id hOf
          obtain ⟨y0, _, _, d1, _⟩ := hBk.at_ hb
          have HB := Lib.hid hb
          clear h1 hY hyl hwo hBk hb
          go_wp2_with fail
          have hcall := impl_FlashWipe (wipeN f j) j false _ c' _ hOy.fl
          rw [← HYL.out] at hcall
          refine hcall.mono ?_
          clear hcall
          rw [H1.out]
          rintro e w7 ⟨A7, c7, rfl, _, hO7, hb7⟩
          have hs7 := hb7.size
          have hOf7 := hOf.below hb7 (Nat.le_refl _)
          have hOn7 := hOn.below hb7 (Nat.le_refl _)
          have hB7 := hB.trans (hb7.mono hB.size)
          have d2 := (hb7.cell (p := ⟨g, o + j * 2 + 1, none⟩) (lt_of_cell d1)).trans d1
          clear hOy hOf hOn hB hb7 d1
          by_cases hw : b.worn = 200
          · rw [if_pos hw]
            rw [hw] at d2
            have hjl : (j : Int) < f.length := by rw [HFL.out]; omega
            clear hO7 hw
            go_wp2
            go_ret
            exact ⟨by simp, hB7⟩
          · rw [if_neg hw] at hO7 ⊢
            have hok2 := Lib.hid (HWO.out hw)
            have hl2 : (wipe (wipeN f j) j false).length = 4 := by rw [wipe_len, ← HYL.out]
            dsimp only at hO7 ⊢
            rw [hl2]
            clear hw d2 hl2
            go_wp2
            go_roundw
            (case rel => exact ⟨j + 1, A7, c7, _, _, by omega, by go_num, rfl, hO7, hok2, hOf7, hOn7, by omega, hB7⟩)
            (case measure => simp [intOf]; omega)
        · obtain rfl : j = 4 := by omega
          have hYp := Lib.hid (wipeN_pages (small_pages hF.out) 4)
          have hYb : Hid (∀ (m : Nat) (b : Bk), m < 4 → f[m]? = some b → (wipeN f 4)[m]? = some ⟨List.replicate 4 pg0, b.worn + 1⟩) := fun m b h1 h2 => wipeN_lt 4 m h1 h2
          have hYl : (wipeN f 4).length = 4 := by rw [wipeN_len, HFL.out]
          generalize wipeN f 4 = Y at *
          have HYL := Lib.hid hYl
          have hr4 : 4 = (List.replicate 4 pg0).length := by simp
          have hr4l : (List.replicate 4 pg0).length < 1000000000000 := by simp
          have HR4 := Lib.hid hr4
          have HR4l := Lib.hid hr4l
          obtain ⟨ys, hYk, _⟩ := id hOy
          obtain ⟨yb, yo, rfl⟩ := hYk.addr (by intro e; rw [e] at hYl; simp at hYl)
          clear hr4 hr4l hYl hYk
          go_wp2
          go_loopw [15] (fun q wl => ∃ j : Nat, j ≤ 4 ∧ q = .int .i64 j ∧ OFl wl lo hi (some ⟨yb, yo, none⟩) Y ∧ OFl wl w.heap.size w1.heap.size (some ⟨g, o, none⟩) f ∧ OFl wl w5.heap.size w6.heap.size (some ⟨ng, 0, none⟩) flashNew ∧ Below w.heap.size w wl) (fun q _ => 4 - (intOf q).toNat)
          case atStart => exact ⟨0, by omega, rfl, hOy, hOf, hOn, hB⟩
          case round =>
            obtain ⟨j, hj, rfl, hOy, hOf, hOn, hB⟩ := hrel
            by_cases hj4 : j < 4
            · have hj4' : (j : Int) < 4 := by omega
              obtain ⟨b, hb⟩ := get_some (l := f) (k := j) (by rw [HFL.out]; exact hj4)
              have hbw := hwn.out b (List.mem_of_getElem? hb)
              have hY := hYb.out j b hj4 hb
              have hN : flashNew[j]? = some newBlock := by unfold flashNew; rw [List.getElem?_replicate, if_pos hj4]
              obtain ⟨fs, hFk, _⟩ := id hOf
              obtain ⟨y0, _, _, d1, _⟩ := hFk.at_ hb
              obtain ⟨ys, hYk, _⟩ := id hOy
              obtain ⟨⟨Z, cz⟩, _, a0, a1, _, _, aRow, _⟩ := hYk.at_ hY
              obtain ⟨ns, hNk, _⟩ := id hOn
              obtain ⟨⟨U, cu⟩, _, n0, n1, _, _, nRow, _⟩ := hNk.at_ hN
              dsimp only [newBlock] at a0 a1 aRow n0 n1 nRow
              rw [← HR4.out] at a0 n0
              rw [show 0 + j * 2 = j * 2 by omega] at n0
              have e2 : IntKind.i64.wrap (b.worn + 1) = b.worn + 1 := IntWalk.i64_in _ (by omega)
              have hjl : (j : Int) < f.length := by rw [HFL.out]; omega
              have l1 := lt_of_cell a0
              have l2 := lt_of_cell d1
              have l3 := lt_of_cell n0
              have haR := aRow.drew
              have hnR := nRow.drew
              clear hb hY hN hFk hYk hNk aRow nRow n1
              go_wp2
              go_region_held3 (fun w' => w'.cell? ⟨yb, yo + j * 2, none⟩ = some (.slice Z 4 cz) ∧ w'.cell? ⟨yb, yo + j * 2 + 1, none⟩ = some (.int .i64 (b.worn + 1)) ∧ w'.cell? ⟨ng, j * 2, none⟩ = some (.slice U 4 cu) ∧ w'.cell? ⟨g, o + j * 2 + 1, none⟩ = some (.int .i64 b.worn))
                (first | go_keep | trivial)
                (first
                  | (go_at_call 18; with_reducible refine (laws_lqPages Z U _ cz cu (List.replicate 4 pg0) _ HR4.out HR4l.out haR hnR).mono ?_; rintro e w8 ⟨rfl, hb8⟩; replace hb8 := undrew hb8; have f0 := (hb8.cell (p := ⟨yb, yo + j * 2, none⟩) l1).trans a0; have f1 := (hb8.cell (p := ⟨yb, yo + j * 2 + 1, none⟩) l1).trans a1; have f2 := (hb8.cell (p := ⟨ng, j * 2, none⟩) l3).trans n0; have f3 := (hb8.cell (p := ⟨g, o + j * 2 + 1, none⟩) l2).trans d1))
              have hOy8 := hOy.below hb8 (Nat.le_refl _)
              have hOf8 := hOf.below hb8 (Nat.le_refl _)
              have hOn8 := hOn.below hb8 (Nat.le_refl _)
              have hB8 := hB.trans (hb8.mono hB.size)
              clear hOy hOf hOn hB hb8
              go_wp2
              go_roundw
              (case rel =>
                (repeat apply Exists.intro)
                refine ⟨?_, rfl⟩
                exact ⟨j + 1, by omega, by go_num, hOy8, hOf8, hOn8, hB8⟩)
              (case measure => simp [intOf]; omega)
            · obtain rfl : j = 4 := by omega
              go_wp2
              go_ret
              exact ⟨rfl, hB⟩
    · have hfo' : flashOk f = false := by simpa using hfo
      rw [hfo']
      go_wp2_with fail
      refine (laws_lqFlash A3 A2 _ _ c3 c2 x _ rfl rfl (by omega) hRp'.out hO35.fl hO25.fl).mono ?_
      rintro e w6 ⟨rfl, hb6⟩
      go_wp2
      go_ret
      exact ⟨by simp, hB5.trans (hb6.mono (by omega))⟩
end Go.Proofs.Ytlchlhjjoddocaa
