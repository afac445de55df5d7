/- Walks: FnWipeAgain. -/
import Derived.Test.YtlchlhjjoddocaaQ5
namespace Go.Proofs.Ytlchlhjjoddocaa
set_option linter.unusedVariables false
set_option linter.unusedSimpArgs false
open Go.RowKit Go.Maps
set_option maxHeartbeats 400000
theorem flashWipe_eq {f : List Bk} {i : Nat} (h : flashOk f = true) (hi : i < 4) (t : Bool) : flashWipe f i t = if (f.getD i zbk).worn = 200 then (f, false) else (wipe f i t, true) := by
  have hb : blockB (i : Int) = true := by unfold blockB; simp; omega
  unfold flashWipe
  rw [if_neg (by rw [h, hb]; simp), Int.toNat_natCast]
theorem flashWipe_true {f : List Bk} {n : Int} {t : Bool} (h : (flashWipe f n t).2 = true) : flashOk f = true ∧ ∃ i : Nat, n = i ∧ i < 4 ∧ (f.getD i zbk).worn ≠ 200 ∧ flashWipe f n t = (wipe f i t, true) := by
  unfold flashWipe at h ⊢
  split at h
  · cases h
  · rename_i h1
    have h2 : flashOk f = true := by
      rcases Bool.eq_false_or_eq_true (flashOk f) with h | h
      · exact h
      · exact absurd (.inl h) h1
    have h3 : blockB n = true := by
      rcases Bool.eq_false_or_eq_true (blockB n) with h | h
      · exact h
      · exact absurd (.inr h) h1
    rw [if_neg h1]
    have hn : 0 ≤ n ∧ n < 4 := by unfold blockB at h3; simpa using h3
    split at h
    · cases h
    · rename_i h4
      refine ⟨h2, n.toNat, by omega, by omega, h4, ?_⟩
      rw [if_neg h4]
theorem wiped_b {f : List Bk} {i : Nat} {b : Bk} (h : f[i]? = some b) (t : Bool) : (wipe f i t)[i]? = some ⟨List.replicate 4 (if t then ⟨2, rc0⟩ else pg0), b.worn + 1⟩ := by
  rw [wipe_at (List.getElem?_eq_some_iff.1 h).1 t, List.getD_eq_getElem?_getD, h]; rfl
theorem getD_of {f : List Bk} {i : Nat} {b : Bk} (h : f[i]? = some b) : f.getD i zbk = b := by rw [List.getD_eq_getElem?_getD, h]; rfl
theorem wiped_small {f : List Bk} (h : flSmall f) (h4 : f.length = 4) (i : Nat) (t : Bool) : (∀ b ∈ wipe f i t, b.pages.length < 1000000000000) := fun b hb => by
  unfold wipe at hb
  rcases mem_set hb with hb | rfl
  · have := (h.2.2 b hb).1; omega
  · simp
/-- the header of a block that was wiped, and its pages -/
theorem wiped_cells {w : World} {lo hi : Nat} {A : Option Addr} {f : List Bk} {i : Nat} {t : Bool} {b : Bk} (hO : OFl w lo hi A (wipe f i t)) (h : f[i]? = some b) :
    ∃ xb xo zb zo cz, A = some ⟨xb, xo, none⟩ ∧ w.cell? ⟨xb, xo + i * 2, none⟩ = some (.slice (some ⟨zb, zo, none⟩) 4 cz) ∧ w.cell? ⟨xb, xo + i * 2 + 1, none⟩ = some (.int .i64 (b.worn + 1)) ∧ Row w (some ⟨zb, zo, none⟩) (pgs (List.replicate 4 (if t then ⟨2, rc0⟩ else pg0))) := by
  obtain ⟨ks, hBk, _⟩ := hO
  have hl := (List.getElem?_eq_some_iff.1 (wiped_b h t)).1
  obtain ⟨xb, xo, rfl⟩ := hBk.addr (by intro e; rw [e] at hl; simp at hl)
  obtain ⟨⟨Z, cz⟩, _, c0, c1, _, _, hRow, _⟩ := hBk.at_ (wiped_b h t)
  dsimp only at c0 hRow
  rw [show (List.replicate 4 (if t = true then (⟨2, rc0⟩ : Pg) else pg0)).length = 4 from by simp] at c0
  obtain ⟨zb, zo, rfl⟩ := hRow.addr (pgs_ne (by cases t <;> decide))
  exact ⟨xb, xo, zb, zo, cz, rfl, c0, c1, hRow⟩
set_option maxHeartbeats 4000000 in
set_option maxRecDepth 100000 in
theorem law_FnWipeAgain {w : World} (A : Option Addr) (bs : List Nat) (c : Nat) (hc : Code w A bs c) :
    Calls Try.prog 6 #[.slice A bs.length c] w fun e w' => e = .returned (.bool true) ∧ Below w.heap.size w w' := by
  by_cases hlen : (1048576 : Int) < bs.length
  · go_enter Try.func6, Try.ntmps6
    go_wp2
    go_ret
    exact ⟨rfl, Below.refl _ _⟩
  · go_enter Try.func6, Try.ntmps6
    go_wp2_with fail
    refine (spec_DrawFlashWipe A bs c _ hc).mono ?_
    rintro e w1 ⟨g, o, d, f, n, t, rfl, ⟨hn1, hn2⟩, hf, hO1, hb1⟩
    have hs1 := hb1.size
    have hF := Lib.hid hf
    have hB1 := hb1
    clear hf hb1
    go_wp2_with fail
    refine (spec_FlashWipe f n t _ d _ (small_len hF.out) hO1.fl).mono ?_
    rintro e w2 ⟨A2, c2, rfl, _, hO2, hb2⟩
    have hs2 := hb2.size
    have hO12 := hO1.below hb2 (Nat.le_refl _)
    have hB2 := hB1.trans (hb2.mono (by omega))
    clear hO1 hb2 hB1
    go_wp2_with fail
    refine (impl_FlashWipe f n t _ d _ hO12.fl).mono ?_
    rintro e w3 ⟨A3, c3, rfl, _, hO3, hb3⟩
    have hs3 := hb3.size
    have hO13 := hO12.below hb3 (Nat.le_refl _)
    have hO23 := hO2.below hb3 (Nat.le_refl _)
    have hB3 := hB2.trans (hb3.mono (by omega))
    clear hO12 hO2 hb3 hB2
    have hRl := wiped_len f n t hF.out.1
    have hRp := Lib.hid (wiped_pages f n t fun b hb => (hF.out.2.2 b hb).1)
    have hRd : Hid (flashWipe f n t = if flashOk f = false ∨ blockB n = false then ([], false) else if (f.getD n.toNat zbk).worn = 200 then (f, false) else (wipe f n.toNat t, true)) := rfl
    have hRt := @flashWipe_true f n t
    generalize hR : flashWipe f n t = R at *
    clear hR
    obtain ⟨x, ok⟩ := R
    dsimp only at *
    have hRp' := Lib.hid (show ∀ b ∈ x, b.pages.length < 1000000000000 from fun b hb => by have := hRp.out b hb; omega)
    go_wp2_with fail
    refine (laws_lqFlash A3 A2 _ _ c3 c2 x _ rfl rfl (by omega) hRp'.out hO3.fl hO23.fl).mono ?_
    rintro e w4 ⟨rfl, hb4⟩
    have hs4 := hb4.size
    have hO14 := hO13.below hb4 (Nat.le_refl _)
    have hO24 := hO23.below hb4 (Nat.le_refl _)
    have hO34 := hO3.below hb4 (Nat.le_refl _)
    have hB4 := hB3.trans (hb4.mono (by omega))
    clear hO13 hO23 hO3 hb4 hB3
    cases ok
    · go_wp2_with fail
      refine (laws_lqFlash A3 A2 _ _ c3 c2 x _ rfl rfl (by omega) hRp'.out hO34.fl hO24.fl).mono ?_
      rintro e w6 ⟨rfl, hb6⟩
      go_wp2
      go_ret
      exact ⟨by simp, hB4.trans (hb6.mono (by omega))⟩
    · obtain ⟨hfo, i, rfl, hi4, hw, hx⟩ := hRt rfl
      have hfl := flashOk_len hfo
      obtain ⟨b, hb⟩ := get_some (l := f) (k := i) (by omega)
      have hbs := (flashOk_shape hfo b (List.mem_of_getElem? hb)).2
      rw [getD_of hb] at hw
      have h1 := flashWipe_eq hfo hi4 true
      have h3 := flashWipe_eq hfo hi4 false
      rw [getD_of hb, if_neg hw] at h1 h3
      have hko := wiped_ok hfo hi4 true (by rw [getD_of hb]; exact hw)
      have h2 := flashWipe_eq hko hi4 false
      rw [getD_of (wiped_b hb true)] at h2
      have H1 := Lib.hid h1
      have H2 := Lib.hid h2
      have H3 := Lib.hid h3
      have HB := Lib.hid hb
      have HFL := Lib.hid hfl
      have hi4' : (i : Int) < 4 := by omega
      have hr4 : 4 = (List.replicate 4 pg0).length := by simp
      have hr4l : (List.replicate 4 pg0).length < 1000000000000 := by simp
      have HR4 := Lib.hid hr4
      have HR4l := Lib.hid hr4l
      clear hr4 hr4l hRt hRd h1 h2 h3 hx hko hfo hw hb hfl
      go_wp2_with fail
      refine (impl_FlashWipe f i true _ d _ hO14.fl).mono ?_
      rw [H1.out]
      rintro e w5 ⟨A5, c5, rfl, _, hO5, hb5⟩
      dsimp only at hO5
      have hs5 := hb5.size
      have hO15 := hO14.below hb5 (Nat.le_refl _)
      have hB5 := hB4.trans (hb5.mono (by omega))
      clear hO14 hO24 hO34 hb5 hB4
      by_cases hw2 : b.worn + 1 = 200
      · have hh := H2.out
        rw [if_pos hw2] at hh
        replace H2 := Lib.hid hh
        have hb199 : b.worn = 199 := by omega
        clear hh hw2
        go_wp2_with fail
        refine (impl_FlashWipe (wipe f i true) i false _ c5 _ hO5.fl).mono ?_
        rw [H2.out]
        rintro e w6 ⟨A6, c6, rfl, _, hO6, hb6⟩
        dsimp only at hO6
        have hs6 := hb6.size
        have hO16 := hO15.below hb6 (Nat.le_refl _)
        have hO56 := hO5.below hb6 (Nat.le_refl _)
        have hB6 := hB5.trans (hb6.mono (by omega))
        clear hO15 hO5 hb6 hB5
        go_wp2_with fail
        refine (impl_FlashWipe f i false _ d _ hO16.fl).mono ?_
        rw [H3.out]
        rintro e w7 ⟨A7, c7, rfl, _, hO7, hb7⟩
        dsimp only at hO7
        have hs7 := hb7.size
        have hO57 := hO56.below hb7 (Nat.le_refl _)
        have hO67 := hO6.below hb7 (Nat.le_refl _)
        have hB7 := hB6.trans (hb7.mono (by omega))
        clear hO16 hO56 hO6 hb7 hB6
        obtain ⟨xb, xo, zb, zo, cz, rfl, c0, c1, hRow⟩ := wiped_cells hO57 HB.out
        have hc1 : w7.cell? ⟨xb, xo + i * 2 + 1, none⟩ = some (.int .i64 200) := by rw [c1, hb199]; rfl
        have hil : (i : Int) < (wipe f i true).length := by rw [wipe_len, HFL.out]; omega
        clear hb199 c1
        go_wp2
        go_ret
        exact ⟨by simp, hB7⟩
      · have hh := H2.out
        rw [if_neg hw2] at hh
        replace H2 := Lib.hid hh
        clear hh hw2
        go_wp2_with fail
        refine (impl_FlashWipe (wipe f i true) i false _ c5 _ hO5.fl).mono ?_
        rw [H2.out]
        rintro e w6 ⟨A6, c6, rfl, _, hO6, hb6⟩
        dsimp only at hO6
        have hs6 := hb6.size
        have hO16 := hO15.below hb6 (Nat.le_refl _)
        have hO56 := hO5.below hb6 (Nat.le_refl _)
        have hB6 := hB5.trans (hb6.mono (by omega))
        clear hO15 hO5 hb6 hB5
        go_wp2_with fail
        refine (impl_FlashWipe f i false _ d _ hO16.fl).mono ?_
        rw [H3.out]
        rintro e w7 ⟨A7, c7, rfl, _, hO7, hb7⟩
        dsimp only at hO7
        have hs7 := hb7.size
        have hO57 := hO56.below hb7 (Nat.le_refl _)
        have hO67 := hO6.below hb7 (Nat.le_refl _)
        have hB7 := hB6.trans (hb7.mono (by omega))
        clear hO16 hO56 hO6 hb7 hB6
        have hy : (wipe (wipe f i true) i false)[i]? = some ⟨List.replicate 4 pg0, b.worn + 1 + 1⟩ := wiped_b (wiped_b HB.out true) false
        have hz : (wipe f i false)[i]? = some ⟨List.replicate 4 pg0, b.worn + 1⟩ := wiped_b HB.out false
        have hoth : Hid (others (wipe (wipe f i true) i false) (wipe f i false) i) := ⟨by rw [wipe_len, wipe_len, wipe_len], fun j hj => by rw [wipe_ne (by omega), wipe_ne (by omega), wipe_ne (by omega)]⟩
        have hyl : (wipe (wipe f i true) i false).length = 4 := by rw [wipe_len, wipe_len, HFL.out]
        have hzl : (wipe f i false).length = 4 := by rw [wipe_len, HFL.out]
        have hzp := Lib.hid (wiped_small hF.out HFL.out i false)
        have hyp : Hid (∀ b ∈ wipe (wipe f i true) i false, b.pages.length < 1000000000000) := fun b hb => by
          unfold wipe at hb
          rcases mem_set hb with hb | rfl
          · exact wiped_small hF.out HFL.out i true b hb
          · simp
        obtain ⟨yb, yo, yzb, yzo, ycz, rfl, a0, a1, aRow⟩ := wiped_cells hO67 (wiped_b HB.out true)
        obtain ⟨zb, zo, zzb, zzo, zcz, rfl, c0, c1, cRow⟩ := wiped_cells hO7 HB.out
        dsimp only at a1
        generalize wipe (wipe f i true) i false = y at *
        generalize wipe f i false = z at *
        have HYL := Lib.hid hyl
        have hlyz : Hid (z.length = y.length) := by rw [Hid, hyl, hzl]
        have hyl2 : y.length < 1000000000000 := by omega
        have hiy : (i : Int) < y.length := by omega
        have hiz : (i : Int) < z.length := by omega
        have e1 : IntKind.i64.wrap (b.worn + 1 + 1) = b.worn + 1 + 1 := IntWalk.i64_in _ (by omega)
        have e2 : IntKind.i64.wrap (b.worn + 1) = b.worn + 1 := IntWalk.i64_in _ (by omega)
        have haR := aRow.drew
        have hcR := cRow.drew
        have hYf := hO67.fl.drew'
        have hZf := hO7.fl.drew'
        have l1 := lt_of_cell a0
        have l2 := lt_of_cell c0
        clear hy hz hyl hzl
        go_wp2
        go_region_held3 (fun w' => w'.cell? ⟨yb, yo + i * 2, none⟩ = some (.slice (some ⟨yzb, yzo, none⟩) 4 ycz) ∧ w'.cell? ⟨yb, yo + i * 2 + 1, none⟩ = some (.int .i64 (b.worn + 1 + 1)) ∧ w'.cell? ⟨zb, zo + i * 2, none⟩ = some (.slice (some ⟨zzb, zzo, none⟩) 4 zcz) ∧ w'.cell? ⟨zb, zo + i * 2 + 1, none⟩ = some (.int .i64 (b.worn + 1)))
          (first | go_keep | trivial)
          (first
            | (go_at_call 18; with_reducible refine (laws_lqPages (some ⟨yzb, yzo, none⟩) (some ⟨zzb, zzo, none⟩) _ ycz zcz (List.replicate 4 pg0) _ HR4.out HR4l.out haR hcR).mono ?_; rintro e w8 ⟨rfl, hb8⟩; have hYf8 := hYf.below hb8 (Nat.le_refl _); have hZf8 := hZf.below hb8 (Nat.le_refl _); replace hb8 := undrew hb8; have f0 := (hb8.cell (p := ⟨yb, yo + i * 2, none⟩) l1).trans a0; have f1 := (hb8.cell (p := ⟨yb, yo + i * 2 + 1, none⟩) l1).trans a1; have f2 := (hb8.cell (p := ⟨zb, zo + i * 2, none⟩) l2).trans c0; have f3 := (hb8.cell (p := ⟨zb, zo + i * 2 + 1, none⟩) l2).trans c1)
            | (go_at_call 19; with_reducible refine (laws_lqOthers (some ⟨yb, yo, none⟩) (some ⟨zb, zo, none⟩) _ _ c6 c7 y z i _ rfl hlyz.out hoth.out hyl2 hyp.out hYf8 hZf8).mono ?_; rintro e w9 ⟨rfl, hb9⟩; have g0 := (hb9.cell (p := ⟨yb, yo + i * 2, none⟩) (lt_of_cell f0)).trans f0; have g1 := (hb9.cell (p := ⟨yb, yo + i * 2 + 1, none⟩) (lt_of_cell f1)).trans f1; have g2 := (hb9.cell (p := ⟨zb, zo + i * 2, none⟩) (lt_of_cell f2)).trans f2; have g3 := (hb9.cell (p := ⟨zb, zo + i * 2 + 1, none⟩) (lt_of_cell f3)).trans f3))
        have hs8 := hb8.size
        have hBf := (hB7.trans (hb8.mono (by omega))).trans (hb9.mono (by omega))
        go_wp2
        go_ret
        exact ⟨rfl, hBf⟩
end Go.Proofs.Ytlchlhjjoddocaa
