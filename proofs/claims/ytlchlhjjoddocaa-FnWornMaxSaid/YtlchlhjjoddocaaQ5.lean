/- Walks: FnWipe. -/
import Derived.Test.YtlchlhjjoddocaaG19
import Derived.Test.YtlchlhjjoddocaaL6
import Derived.Test.YtlchlhjjoddocaaE4
import Derived.Test.YtlchlhjjoddocaaS2
import Derived.Test.YtlchlhjjoddocaaS4
namespace Go.Proofs.Ytlchlhjjoddocaa
set_option linter.unusedVariables false
set_option linter.unusedSimpArgs false
open Go.RowKit Go.Maps
set_option maxHeartbeats 400000
theorem small_len {f : List Bk} (h : flSmall f) : f.length < 1000000000000 := by have := h.1; omega
theorem small_pages {f : List Bk} (h : flSmall f) : ∀ b ∈ f, b.pages.length < 1000000000000 := fun b hb => by have := (h.2.2 b hb).1; omega
theorem wiped_len (f : List Bk) (n : Int) (t : Bool) (h : f.length ≤ 4) : (flashWipe f n t).1.length ≤ 4 := by
  unfold flashWipe
  split
  · simp
  · split
    · exact h
    · show (wipe f _ t).length ≤ 4; rw [wipe_len]; exact h
theorem wiped_pages (f : List Bk) (n : Int) (t : Bool) (h : ∀ b ∈ f, b.pages.length ≤ 4) : ∀ b ∈ (flashWipe f n t).1, b.pages.length ≤ 4 := by
  unfold flashWipe
  split
  · intro b hb; simp at hb
  · split
    · exact h
    · intro b hb
      unfold wipe at hb
      rcases mem_set hb with hb | rfl
      · exact h b hb
      · simp
set_option maxHeartbeats 4000000 in
set_option maxRecDepth 100000 in
theorem law_FnWipe {w : World} (A : Option Addr) (bs : List Nat) (c : Nat) (hc : Code w A bs c) :
    Calls Try.prog 5 #[.slice A bs.length c] w fun e w' => e = .returned (.bool true) ∧ Below w.heap.size w w' := by
  by_cases hlen : (1048576 : Int) < bs.length
  · go_enter Try.func5, Try.ntmps5
    go_wp2
    go_ret
    exact ⟨rfl, Below.refl _ _⟩
  · go_enter Try.func5, Try.ntmps5
    go_wp2_with fail
    refine (spec_DrawFlashWipe A bs c _ hc).mono ?_
    rintro e w1 ⟨g, o, d, f, n, t, rfl, ⟨hn1, hn2⟩, hf, hO1, hb1⟩
    have hs1 := hb1.size
    have hF := Lib.hid hf
    have hB1 := hb1
    clear hf hb1
    go_wp2_with fail
    refine (spec_FlashWipe f n t _ d _ (small_len hF.out) hO1.fl).mono ?_
    rintro e w2 ⟨A2, c2, rfl, _, hO2, hb2⟩
    have hs2 := hb2.size
    have hO12 := hO1.below hb2 (Nat.le_refl _)
    have hB2 := hB1.trans (hb2.mono (by omega))
    clear hO1 hb2 hB1
    go_wp2_with fail
    refine (impl_FlashWipe f n t _ d _ hO12.fl).mono ?_
    rintro e w3 ⟨A3, c3, rfl, _, hO3, hb3⟩
    have hs3 := hb3.size
    have hO13 := hO12.below hb3 (Nat.le_refl _)
    have hO23 := hO2.below hb3 (Nat.le_refl _)
    have hB3 := hB2.trans (hb3.mono (by omega))
    clear hO12 hO2 hb3 hB2
    have hRl := wiped_len f n t hF.out.1
    have hRp := Lib.hid (wiped_pages f n t fun b hb => (hF.out.2.2 b hb).1)
    have hRd : Hid (flashWipe f n t = if flashOk f = false ∨ blockB n = false then ([], false) else if (f.getD n.toNat zbk).worn = 200 then (f, false) else (wipe f n.toNat t, true)) := rfl
    generalize hR : flashWipe f n t = R at *
    clear hR
    obtain ⟨x, ok⟩ := R
    dsimp only at *
    have hRp' := Lib.hid (show ∀ b ∈ x, b.pages.length < 1000000000000 from fun b hb => by have := hRp.out b hb; omega)
    go_wp2_with fail
    refine (laws_lqFlash A3 A2 _ _ c3 c2 x _ rfl rfl (by omega) hRp'.out hO3.fl hO23.fl).mono ?_
    rintro e w4 ⟨rfl, hb4⟩
    have hs4 := hb4.size
    have hO14 := hO13.below hb4 (Nat.le_refl _)
    have hO24 := hO23.below hb4 (Nat.le_refl _)
    have hO34 := hO3.below hb4 (Nat.le_refl _)
    have hB4 := hB3.trans (hb4.mono (by omega))
    clear hO13 hO23 hO3 hb4 hB3
    go_wp2_with fail
    refine (spec_FlashOk f _ d _ (small_len hF.out) hO14.fl).mono ?_
    rintro e w5 ⟨rfl, hb5⟩
    have hs5 := hb5.size
    have hO15 := hO14.below hb5 (Nat.le_refl _)
    have hO25 := hO24.below hb5 (Nat.le_refl _)
    have hO35 := hO34.below hb5 (Nat.le_refl _)
    have hB5 := hB4.trans (hb5.mono (by omega))
    clear hO14 hO24 hO34 hb5 hB4
    by_cases hfo : flashOk f = true
    · rw [hfo]
      by_cases hn4 : 4 ≤ n
      · go_wp2_with fail
        refine (laws_lqFlash A3 A2 _ _ c3 c2 x _ rfl rfl (by omega) hRp'.out hO35.fl hO25.fl).mono ?_
        rintro e w6 ⟨rfl, hb6⟩
        go_wp2
        go_ret
        exact ⟨by simp, hB5.trans (hb6.mono (by omega))⟩
      · obtain ⟨i, rfl⟩ := Int.eq_ofNat_of_zero_le hn1
        have hi4 : i < 4 := by omega
        have hi4' : (i : Int) < 4 := by omega
        have hfl := flashOk_len hfo
        have hbo : blockB (i : Int) = true := by unfold blockB; simp; omega
        have HFO := Lib.hid hfo
        have HFL := Lib.hid hfl
        by_cases hw : (f.getD i zbk).worn = 200
        · have hR2 : Hid ((x, ok) = (f, false)) := by
            rw [Hid, hRd.out, if_neg (by rw [hfo, hbo]; simp), Int.toNat_natCast, if_pos hw]
          obtain ⟨rfl, rfl⟩ := Prod.mk.inj hR2.out
          obtain ⟨b, hb⟩ := get_some (l := x) (k := i) (by omega)
          have hbw : b.worn = 200 := by rw [List.getD_eq_getElem?_getD, hb] at hw; exact hw
          obtain ⟨hs, hBk, _⟩ := id hO15
          obtain ⟨y, _, c0, c1, _⟩ := hBk.at_ hb
          rw [hbw] at c1
          have hi4'' : (i : Int) < x.length := by omega
          clear hR2 hRd hw hb hbo hfo hfl
          go_wp2_with fail
          refine (laws_lqFlash A3 _ _ _ c3 d x _ rfl rfl (by omega) hRp'.out hO35.fl hO15.fl).mono ?_
          rintro e w6 ⟨rfl, hb6⟩
          go_wp2
          go_ret
          exact ⟨by simp, hB5.trans (hb6.mono (by omega))⟩
        · have hR2 : Hid ((x, ok) = (wipe f i t, true)) := by
            rw [Hid, hRd.out, if_neg (by rw [hfo, hbo]; simp), Int.toNat_natCast, if_neg hw]
          obtain ⟨hx, rfl⟩ := Prod.mk.inj hR2.out
          obtain ⟨b, hb⟩ := get_some (l := f) (k := i) (by omega)
          have hbe : f.getD i zbk = b := by rw [List.getD_eq_getElem?_getD, hb]; rfl
          have hbs := flashOk_shape hfo b (List.mem_of_getElem? hb)
          have hX := wipe_at (f := f) (i := i) (by omega) t
          rw [hbe, ← hx] at hX
          have hxl : x.length = 4 := by rw [hx, wipe_len]; exact hfl
          have hxo := wiped_ok hfo hi4 t hw
          rw [← hx] at hxo
          have hoth : Hid (others x f i) := ⟨by rw [hxl, hfl], fun j hj => by rw [hx]; exact wipe_ne (by omega) t⟩
          obtain ⟨hs, hBk, _⟩ := id hO15
          obtain ⟨y, _, _, d1, _⟩ := hBk.at_ hb
          obtain ⟨ks, hBk3, _⟩ := id hO35
          have hx0 : x ≠ [] := by intro e; rw [e] at hxl; simp at hxl
          obtain ⟨xb, xo, rfl⟩ := hBk3.addr hx0
          obtain ⟨⟨Z, cz⟩, _, c0, c1, _, _, hRow, _⟩ := hBk3.at_ hX
          dsimp only at c0 hRow
          rw [show (List.replicate 4 (if t = true then (⟨2, rc0⟩ : Pg) else pg0)).length = 4 from by simp] at c0
          obtain ⟨zb, zo, rfl⟩ := hRow.addr (pgs_ne (by cases t <;> decide))
          have HXL := Lib.hid hxl
          have HLX : Hid (f.length = x.length) := by rw [Hid, hxl, hfl]
          have hRl' : x.length < 1000000000000 := by omega
          have HXO := Lib.hid hxo
          have hi4a : (i : Int) < x.length := by omega
          have hi4b : (i : Int) < f.length := by omega
          have hbw := hbs.2
          have e1 : IntKind.i64.wrap (b.worn + 1) = b.worn + 1 := IntWalk.i64_in _ (by omega)
          have hpg : ∀ j : Nat, j < 4 → (List.replicate 4 (if t = true then (⟨2, rc0⟩ : Pg) else pg0))[j]? = some (if t = true then (⟨2, rc0⟩ : Pg) else pg0) := fun j hj => by rw [List.getElem?_replicate, if_pos hj]
          have HPG := Lib.hid hpg
          clear hR2 hRd hw hb hbe hX hxo hx hx0 hBk hBk3 hbs hbo hfo hfl hxl hpg
          cases t
          all_goals
            go_wp2
            go_loopw [11] (fun q wr => ∃ j : Nat, j ≤ 4 ∧ q = .int .i64 j ∧ wr = w5) (fun q _ => 4 - (intOf q).toNat)
            case atStart => exact ⟨0, by omega, rfl, rfl⟩
            case round =>
              obtain ⟨j, hj, rfl, rfl⟩ := hrel
              by_cases hj4 : j < 4
              · have hj4' : (j : Int) < 4 := by omega
                obtain ⟨p0, p1, p2, p3, p4⟩ := hRow.pg (HPG.out j hj4)
                dsimp only [pg0, rc0, if_true, if_false, Bool.false_eq_true] at p0 p1 p2 p3 p4
                go_wp2
                go_roundw
                (case rel => exact ⟨j + 1, by omega, by go_num, by trivial⟩)
                (case measure => simp [intOf]; omega)
              · obtain rfl : j = 4 := by omega
                have hF0 := hO15.fl.drew'
                have hX0 := hO35.fl.drew'
                have hbb := lt_of_cell c1
                have hbb' := lt_of_cell d1
                go_wp2
                go_region_held3 (fun w' => w'.cell? ⟨xb, xo + i * 2 + 1, none⟩ = some (.int .i64 (b.worn + 1)) ∧ w'.cell? ⟨g, o + i * 2 + 1, none⟩ = some (.int .i64 b.worn))
                  (first | go_keep | trivial)
                  (first
                    | (go_at_call 19; with_reducible refine (laws_lqOthers (some ⟨xb, xo, none⟩) (some ⟨g, o, none⟩) _ _ c3 d x f i _ rfl HLX.out hoth.out hRl' hRp'.out hX0 hF0).mono ?_; rintro e w6 ⟨rfl, hb6⟩; have hX6 := hX0.below hb6 (Nat.le_refl _); replace hb6 := undrew hb6; have a1 := (hb6.cell (p := ⟨xb, xo + i * 2 + 1, none⟩) hbb).trans c1; have a2 := (hb6.cell (p := ⟨g, o + i * 2 + 1, none⟩) hbb').trans d1)
                    | (go_at_call 20; with_reducible refine (impl_FlashOk x (some ⟨xb, xo, none⟩) c3 _ hX6).mono ?_; rw [HXO.out]; rintro e w7 ⟨rfl, hb7⟩; have b1 := (hb7.cell (p := ⟨xb, xo + i * 2 + 1, none⟩) (lt_of_cell a1)).trans a1; have b2 := (hb7.cell (p := ⟨g, o + i * 2 + 1, none⟩) (lt_of_cell a2)).trans a2))
                have hs6 := hb6.size
                have hBf := (hB5.trans (hb6.mono (by omega))).trans (hb7.mono (by omega))
                go_wp2
                go_ret
                exact ⟨rfl, hBf⟩
    · have hfo' : flashOk f = false := by simpa using hfo
      rw [hfo']
      go_wp2_with fail
      refine (laws_lqFlash A3 A2 _ _ c3 c2 x _ rfl rfl (by omega) hRp'.out hO35.fl hO25.fl).mono ?_
      rintro e w6 ⟨rfl, hb6⟩
      go_wp2
      go_ret
      exact ⟨by simp, hB5.trans (hb6.mono (by omega))⟩
end Go.Proofs.Ytlchlhjjoddocaa
