/- Walks: FnOpenNone. -/
import Derived.Test.YtfkjhnfbajflaaaQ9
import Derived.Test.YtfkjhnfbajflaaaH11
namespace Go.Proofs.Ytfkjhnfbajflaaa
set_option linter.unusedVariables false
set_option linter.unusedSimpArgs false
open Go.RowKit Go.Maps
set_option maxHeartbeats 400000
theorem partGo_some : ∀ {r : List Bk} {i j : Nat}, partGo i r = some j → ∃ m b, j = i + m ∧ r[m]? = some b ∧ partly b = true
  | [], _, _, h => by simp [partGo] at h
  | b :: r, i, j, h => by
    unfold partGo at h
    split at h
    · rename_i hp
      cases h
      exact ⟨0, b, rfl, rfl, hp⟩
    · obtain ⟨m, c, h1, h2, h3⟩ := partGo_some h
      exact ⟨m + 1, c, by omega, by simpa using h2, h3⟩
theorem partGo_none : ∀ {r : List Bk} {i : Nat}, partGo i r = none → ∀ b ∈ r, partly b = false
  | [], _, _ => by simp
  | b :: r, i, h => by
    unfold partGo at h
    split at h
    · cases h
    · rename_i hp
      intro c hc
      rcases List.mem_cons.1 hc with rfl | hc
      · simpa using hp
      · exact partGo_none h c hc
theorem partGo_no : ∀ {r : List Bk} {i : Nat}, (∀ b ∈ r, partly b = false) → partGo i r = none
  | [], _, _ => rfl
  | b :: r, i, h => by
    unfold partGo
    rw [if_neg (by rw [h b (List.mem_cons_self ..)]; simp)]
    exact partGo_no fun c hc => h c (List.mem_cons_of_mem _ hc)
theorem best_true {f : List Bk} : ∀ {r : List Bk} {i best j : Nat} {fd : Bool}, bestGo f i best fd r = (j, true) → (fd = true ∧ j = best) ∨ ∃ m b, j = i + m ∧ r[m]? = some b ∧ clean b = 4
  | [], _, _, _, _, h => by
    unfold bestGo at h
    cases h
    exact .inl ⟨rfl, rfl⟩
  | b :: r, i, best, j, fd, h => by
    unfold bestGo at h
    split at h
    · rename_i hc
      rcases best_true h with ⟨_, rfl⟩ | ⟨m, c, h1, h2, h3⟩
      · exact .inr ⟨0, b, rfl, rfl, hc.1⟩
      · exact .inr ⟨m + 1, c, by omega, by simpa using h2, h3⟩
    · rcases best_true h with h | ⟨m, c, h1, h2, h3⟩
      · exact .inl h
      · exact .inr ⟨m + 1, c, by omega, by simpa using h2, h3⟩
theorem best_false {f : List Bk} : ∀ {r : List Bk} {i best j : Nat} {fd : Bool}, bestGo f i best fd r = (j, false) → fd = false ∧ ∀ b ∈ r, clean b ≠ 4
  | [], _, _, _, _, h => by
    unfold bestGo at h
    cases h
    exact ⟨rfl, by simp⟩
  | b :: r, i, best, j, fd, h => by
    unfold bestGo at h
    split at h
    · exact absurd (best_false h).1 (by simp)
    · rename_i hc
      obtain ⟨h1, h2⟩ := best_false h
      refine ⟨h1, fun c hcm => ?_⟩
      rcases List.mem_cons.1 hcm with rfl | hcm
      · exact fun h4 => hc ⟨h4, .inl h1⟩
      · exact h2 c hcm
theorem best_skip {f : List Bk} : ∀ {r : List Bk} {i best : Nat} {fd : Bool}, (∀ b ∈ r, clean b ≠ 4) → bestGo f i best fd r = (best, fd)
  | [], _, _, _, _ => rfl
  | b :: r, i, best, fd, h => by
    unfold bestGo
    rw [if_neg (fun hc => h b (List.mem_cons_self ..) hc.1)]
    exact best_skip fun c hc => h c (List.mem_cons_of_mem _ hc)
theorem best_hit {f : List Bk} {B : Bk} {post : List Bk} (h4 : clean B = 4) (hp : ∀ b ∈ post, clean b ≠ 4) : ∀ {pre : List Bk} {i best : Nat}, (∀ b ∈ pre, clean b ≠ 4) → bestGo f i best false (pre ++ B :: post) = (i + pre.length, true)
  | [], i, best, _ => by
    show bestGo f i best false (B :: post) = _
    unfold bestGo
    rw [if_pos ⟨h4, .inl rfl⟩, best_skip hp]
    rfl
  | b :: pre, i, best, h => by
    show bestGo f i best false (b :: (pre ++ B :: post)) = _
    unfold bestGo
    rw [if_neg (fun hc => h b (List.mem_cons_self ..) hc.1), best_hit h4 hp fun c hc => h c (List.mem_cons_of_mem _ hc)]
    simp only [List.length_cons, Prod.mk.injEq, and_true]
    omega
theorem part_pos {b : Bk} (h : partly b = true) : 0 < clean b := by unfold partly at h; simp at h; exact h.1
theorem open_true {f : List Bk} (h : (openI f).2 = true) : ∃ (m : Nat) (b : Bk), (openI f).1 = (m : Int) ∧ f[m]? = some b ∧ 0 < clean b := by
  unfold openI at h ⊢
  cases hp : partGo 0 f with
  | some j =>
    obtain ⟨m, b, h1, h2, h3⟩ := partGo_some hp
    have : j = m := by omega
    subst this
    exact ⟨j, b, rfl, h2, part_pos h3⟩
  | none =>
    rw [hp] at h
    dsimp only at h ⊢
    have he : bestGo f 0 0 false f = ((bestGo f 0 0 false f).1, true) := by rw [← h]
    rcases best_true he with ⟨hc, _⟩ | ⟨m, b, h1, h2, h3⟩
    · cases hc
    · have : (bestGo f 0 0 false f).1 = m := by omega
      rw [this]
      exact ⟨m, b, rfl, h2, by omega⟩
theorem open_false {f : List Bk} (hp4 : ∀ b ∈ f, b.pages.length = 4) (h : (openI f).2 = false) : ∀ b ∈ f, clean b = 0 := by
  unfold openI at h
  cases hp : partGo 0 f with
  | some j => rw [hp] at h; cases h
  | none =>
    rw [hp] at h
    dsimp only at h
    have he : bestGo f 0 0 false f = ((bestGo f 0 0 false f).1, false) := Prod.ext rfl h
    have h1 := (best_false he).2
    intro b hb
    have h2 := partGo_none hp b hb
    have h3 := clean_le4 (hp4 b hb)
    have h4 := h1 b hb
    unfold partly at h2
    simp at h2
    omega
theorem open_wiped {f : List Bk} {k : Nat} {B : Bk} (h0 : ∀ b ∈ f, clean b = 0) (hk : k < f.length) (h4 : clean B = 4) : openI (f.set k B) = ((k : Int), true) := by
  have hset : f.set k B = f.take k ++ B :: f.drop (k + 1) := List.set_eq_take_append_cons_drop.trans (by rw [if_pos hk])
  have hp : partGo 0 (f.set k B) = none := partGo_no fun b hb => by
    rcases mem_set hb with hb | rfl
    · unfold partly; rw [h0 b hb]; rfl
    · unfold partly; rw [h4]; rfl
  have hb : bestGo (f.set k B) 0 0 false (f.set k B) = (k, true) := by
    have := best_hit (f := f.set k B) (B := B) (post := f.drop (k + 1)) h4 (fun b hb => by rw [h0 b (List.mem_of_mem_drop hb)]; omega) (pre := f.take k) (i := 0) (best := 0) (fun b hb => by rw [h0 b (List.mem_of_mem_take hb)]; omega)
    rw [← hset] at this
    rw [this, List.length_take]
    simp only [Prod.mk.injEq, and_true]
    omega
  unfold openI
  rw [hp, hb]
def tot (r : List Bk) : Nat := (r.map clean).sum
theorem tot_mem {b : Bk} : ∀ {r : List Bk}, b ∈ r → clean b ≤ tot r
  | [], h => by cases h
  | c :: r, h => by
    show _ ≤ (clean c :: r.map clean).sum
    rw [List.sum_cons]
    rcases List.mem_cons.1 h with rfl | h
    · omega
    · have := tot_mem h
      unfold tot at this
      omega
theorem tot_zero : ∀ {r : List Bk}, (∀ b ∈ r, clean b = 0) → tot r = 0
  | [], _ => rfl
  | c :: r, h => by
    show (clean c :: r.map clean).sum = 0
    have := tot_zero fun b hb => h b (List.mem_cons_of_mem _ hb)
    unfold tot at this
    rw [List.sum_cons, this, h c (List.mem_cons_self ..)]
theorem flashClean_at {f : List Bk} {k : Nat} {b : Bk} (h : flashOk f = true) (hk : k < 4) (hb : f[k]? = some b) : flashClean f k = clean b := by
  have hbo : blockB (k : Int) = true := by unfold blockB; simp; omega
  unfold flashClean
  rw [if_neg (by rw [h, hbo]; simp), Int.toNat_natCast, getD_of hb]
theorem findOld_lt {f : List Bk} (h : flashOk f = true) : ∃ m : Nat, findOld f = m ∧ m < 4 := by
  refine ⟨hiGo (spOf (allFrom 0 f)) 0 0 (spOf (allFrom 0 f)), ?_, hiGo_lt _ _ _ 4 (by rw [spOf_len]; omega) (by omega)⟩
  unfold findOld
  rw [if_pos h]
theorem clean_new (n : Int) : clean ⟨List.replicate 4 pg0, n⟩ = 4 := by
  show (List.replicate 4 pg0).countP isClean = 4
  decide
set_option maxHeartbeats 4000000 in
set_option maxRecDepth 100000 in
theorem law_FnOpenNone {w : World} (A : Option Addr) (bs : List Nat) (c : Nat) (hc : Code w A bs c) :
    Calls Try.prog 3 #[.slice A bs.length c] w fun e w' => e = .returned (.bool true) ∧ Below w.heap.size w w' := by
  by_cases hlen : (1048576 : Int) < bs.length
  · go_enter Try.func3, Try.ntmps3
    go_wp2
    go_ret
    exact ⟨rfl, Below.refl _ _⟩
  go_enter Try.func3, Try.ntmps3
  go_wp2_with fail
  refine (spec_DrawFindOpen A bs c _ hc).mono ?_
  rintro e w1 ⟨g, o, d, f, rfl, hf, hO1, hb1⟩
  have hs1 := hb1.size
  have hF := Lib.hid hf
  have hB1 := hb1
  clear hf hb1
  go_wp2_with fail
  refine (spec_FindOpen f _ _ d _ rfl (small_len hF.out) hO1.fl).mono ?_
  rintro e w2 ⟨rfl, hb⟩
  have hs2 := hb.size
  have hO2 := hO1.below hb (Nat.le_refl _)
  have hB2 := hB1.trans (hb.mono (by omega))
  clear hO1 hb hB1
  go_wp2_with fail
  refine (impl_FindOpen f _ _ d _ rfl hO2.fl).mono ?_
  rintro e w3 ⟨rfl, hb⟩
  have hs3 := hb.size
  have hO3 := hO2.below hb (Nat.le_refl _)
  have hB3 := hB2.trans (hb.mono (by omega))
  clear hO2 hb hB2
  go_wp2_with fail
  refine (spec_FlashOk f _ d _ (small_len hF.out) hO3.fl).mono ?_
  rintro e w4 ⟨rfl, hb⟩
  have hs4 := hb.size
  have hO4 := hO3.below hb (Nat.le_refl _)
  have hB4 := hB3.trans (hb.mono (by omega))
  clear hO3 hb hB3
  by_cases hok : flashOk f = true
  · have HOK := Lib.hid hok
    have HL := Lib.hid (flashOk_len hok)
    have HSH := Lib.hid (fun b hb => (flashOk_shape hok b hb).1)
    have hfo : Hid (findOpen f = openI f) := by unfold Hid findOpen; rw [if_pos hok, openI_eq HSH.out]
    rw [hok]
    rw [hfo.out]
    clear hok
    go_wp2
    go_loopw [8, 9] (fun q i wr => ∃ k s : Nat, k ≤ 4 ∧ s ≤ 4 * k ∧ i = .int .i64 k ∧ q = .int .i64 s ∧ Below w4.heap.size w4 wr ∧ Hid (tot f = s + tot (f.drop k))) (fun _ i _ => 4 - (intOf i).toNat)
    case atStart => exact ⟨0, 0, by omega, by omega, rfl, rfl, Below.refl _ _, by rw [Hid]; simp⟩
    case round =>
      obtain ⟨k, s, hk, hs, rfl, rfl, hB, hT⟩ := hrel
      have hOk := hO4.below hB (Nat.le_refl _)
      by_cases hlt : k < 4
      · obtain ⟨b, hbk⟩ := get_some (l := f) (k := k) (by rw [HL.out]; exact hlt)
        have hfc := Lib.hid (flashClean_at HOK.out hlt hbk)
        have hcl := clean_le4 (HSH.out b (List.mem_of_getElem? hbk))
        have hT2 : Hid (tot f = (s + clean b) + tot (f.drop (k + 1))) := by
          rw [Hid, hT.out, drop_cons hbk]
          show s + (clean b :: (f.drop (k + 1)).map clean).sum = _
          rw [List.sum_cons]; unfold tot; omega
        have hk1 : (k : Int) < 4 := by omega
        clear hbk hT
        go_wp2_with fail
        refine (impl_FlashClean f k _ _ d _ rfl hOk.fl).mono ?_
        rw [hfc.out]
        rintro e w5 ⟨rfl, hb⟩
        have hB5 := hB.trans (hb.mono hB.size)
        generalize clean b = q at *
        have e1 : IntKind.i64.wrap ((s : Int) + q) = (s : Int) + q := IntWalk.i64_in _ (by omega)
        clear hb hOk
        go_wp2
        go_roundw
        (case rel => exact ⟨k + 1, s + q, by omega, by omega, by go_num, by go_num, hB5, hT2⟩)
        (case measure => simp [intOf]; omega)
      · obtain rfl : k = 4 := by omega
        have hts : Hid (tot f = s) := by rw [Hid, hT.out, List.drop_of_length_le (by rw [HL.out]; omega)]; rfl
        have hBw := hB4.trans (hB.mono (by omega))
        have hsw := hB.size
        clear hT hB hB4
        by_cases hop : (openI f).2 = true
        · obtain ⟨m, b, hm, hmb, hcp⟩ := open_true hop
          have hm4 : m < 4 := by have := (List.getElem?_eq_some_iff.1 hmb).1; rw [HL.out] at this; exact this
          have hfc := Lib.hid (flashClean_at HOK.out hm4 hmb)
          have hsp : (0 : Int) < s := by have := tot_mem (List.mem_of_getElem? hmb); rw [hts.out] at this; omega
          have hcp' : (0 : Int) < (clean b : Nat) := by omega
          rw [hop, hm]
          clear hop hm hmb hts
          go_wp2_with fail
          refine (impl_FlashClean f m _ _ d _ rfl hOk.fl).mono ?_
          rw [hfc.out]
          rintro e w5 ⟨rfl, hb⟩
          have hBf := hBw.trans (hb.mono (by omega))
          go_wp2
          go_ret
          exact ⟨rfl, hBf⟩
        · have hop' : (openI f).2 = false := by simpa using hop
          have h0 := open_false HSH.out hop'
          have hs0 : s = 0 := by rw [← hts.out]; exact tot_zero h0
          subst hs0
          obtain ⟨m, hm, hm4⟩ := findOld_lt HOK.out
          obtain ⟨b, hmb⟩ := get_some (l := f) (k := m) (by rw [HL.out]; exact hm4)
          have hfw := flashWipe_eq HOK.out hm4 false
          rw [getD_of hmb] at hfw
          have HM := Lib.hid hm
          have HFW := Lib.hid hfw
          have HWO := Lib.hid (fun h => wiped_ok HOK.out hm4 false (by rw [getD_of hmb]; exact h))
          have hml : m < f.length := by rw [HL.out]; exact hm4
          have H0 := Lib.hid h0
          rw [hop']
          clear hop hop' h0 hts hm hfw hmb
          go_wp2_with fail
          refine (impl_FindOld f _ _ d _ rfl hOk.fl).mono ?_
          rw [HM.out]
          rintro e w5 ⟨rfl, hb⟩
          have hs5 := hb.size
          have hO5 := hOk.below hb (Nat.le_refl _)
          have hB5 := hBw.trans (hb.mono (by omega))
          clear hb hOk hBw
          by_cases hw : b.worn = 200
          · have hh := HFW.out
            rw [if_pos hw] at hh
            replace HFW := Lib.hid hh
            clear hh hw HWO
            go_wp2_with fail
            refine (impl_FlashWipe f m false _ d _ hO5.fl).mono ?_
            rw [HFW.out]
            rintro e w6 ⟨A6, c6, rfl, _, hO6, hb⟩
            dsimp only at hO6 ⊢
            have hs6 := hb.size
            have hB6 := hB5.trans (hb.mono (by omega))
            clear hb hB5
            go_wp2_with fail
            refine (impl_FindOpen f _ _ c6 _ rfl hO6.fl).mono ?_
            rintro e w7 ⟨rfl, hb⟩
            have hBf := hB6.trans (hb.mono (by omega))
            go_wp2
            go_ret
            exact ⟨rfl, hBf⟩
          · have hh := HFW.out
            rw [if_neg hw] at hh
            replace HFW := Lib.hid hh
            have hxo := HWO.out hw
            have hx4 := fun b hb => (flashOk_shape hxo b hb).1
            have hfx : Hid (findOpen (wipe f m false) = ((m : Int), true)) := by
              unfold Hid findOpen
              rw [if_pos hxo, openI_eq hx4]
              exact open_wiped H0.out hml (clean_new _)
            clear hh hw HWO hxo hx4
            go_wp2_with fail
            refine (impl_FlashWipe f m false _ d _ hO5.fl).mono ?_
            rw [HFW.out]
            rintro e w6 ⟨A6, c6, rfl, _, hO6, hb⟩
            dsimp only at hO6 ⊢
            have hs6 := hb.size
            have hB6 := hB5.trans (hb.mono (by omega))
            clear hb hB5
            go_wp2_with fail
            refine (impl_FindOpen (wipe f m false) _ _ c6 _ rfl hO6.fl).mono ?_
            rw [hfx.out]
            rintro e w7 ⟨rfl, hb⟩
            have hBf := hB6.trans (hb.mono (by omega))
            go_wp2
            go_ret
            exact ⟨rfl, hBf⟩
  · have hok' : flashOk f = false := by simpa using hok
    rw [hok']
    go_wp2
    go_ret
    exact ⟨by simp, hB4⟩
end Go.Proofs.Ytfkjhnfbajflaaa
