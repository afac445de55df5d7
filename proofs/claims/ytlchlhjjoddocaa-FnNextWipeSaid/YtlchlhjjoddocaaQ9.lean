/- Walks: FnNextWipe. -/
import Derived.Test.YtlchlhjjoddocaaQ6
import Derived.Test.YtlchlhjjoddocaaG7
import Derived.Test.YtlchlhjjoddocaaH6
namespace Go.Proofs.Ytlchlhjjoddocaa
set_option linter.unusedVariables false
set_option linter.unusedSimpArgs false
open Go.RowKit Go.Maps
set_option maxHeartbeats 400000
theorem flFine_of {f : List Bk} (h : flashOk f = true) : flFine f := by
  have h2 := blocksGo_true (f := f) (seen := []) (by unfold flashOk at h; simp at h; exact h.2)
  exact ⟨flashOk_len h, fun b hb => ⟨(flashOk_shape h b hb).1, (flashOk_shape h b hb).2.1, (flashOk_shape h b hb).2.2, (h2 b hb).2⟩⟩
theorem mostPs_max : ∀ (ps : List Pg) (n m : Int), mostPs (max n m) ps = max n (mostPs m ps)
  | [], _, _ => rfl
  | p :: ps, n, m => by
    show mostPs (max (max n m) p.rc.seq) ps = max n (mostPs (max m p.rc.seq) ps)
    rw [show max (max n m) p.rc.seq = max n (max m p.rc.seq) by omega]
    exact mostPs_max ps n _
theorem clean_seq {p : Pg} (h : pageOk p = true) (h1 : p.state ≠ 1) : p.rc.seq = 0 := by
  unfold pageOk at h
  rw [if_neg h1] at h
  split at h
  · have : p.rc = rc0 := by simpa using h
    rw [this]; rfl
  · cases h
theorem tag_fold : ∀ (ps : List Pg) (i j : Nat) (n : Int), (∀ p ∈ ps, pageOk p = true) → 0 ≤ n → (tagFrom i j ps).foldl bigStep n = mostPs n ps ∧ 0 ≤ mostPs n ps
  | [], _, _, _, _, h => ⟨rfl, h⟩
  | p :: ps, i, j, n, hp, h => by
    have hs : bigStep n (i, j, p) = max n p.rc.seq := by
      unfold bigStep
      dsimp only
      split
      · rfl
      · rename_i h1
        have := clean_seq (hp p (List.mem_cons_self ..)) h1
        omega
    have ih := tag_fold ps i (j + 1) (max n p.rc.seq) (fun q hq => hp q (List.mem_cons_of_mem _ hq)) (by omega)
    rw [tagFrom, List.foldl_cons, hs]
    exact ih
theorem all_fold : ∀ (f : List Bk) (i : Nat) (n : Int), (∀ b ∈ f, ∀ p ∈ b.pages, pageOk p = true) → 0 ≤ n → (allFrom i f).foldl bigStep n = f.foldl (fun n b => max n (most b)) n
  | [], _, _, _, _ => rfl
  | b :: f, i, n, hp, h => by
    obtain ⟨h1, h2⟩ := tag_fold b.pages i 0 n (hp b (List.mem_cons_self ..)) h
    rw [allFrom, List.foldl_append, h1, List.foldl_cons]
    have h3 : mostPs n b.pages = max n (most b) := by
      have := mostPs_max b.pages n 0
      rw [show max n 0 = n by omega] at this
      exact this
    rw [← h3]
    exact all_fold f (i + 1) _ (fun c hc => hp c (List.mem_cons_of_mem _ hc)) h2
theorem findNext_eq {f : List Bk} (h : flashOk f = true) : findNext f = next f := by
  unfold findNext next topSeq bigOf
  rw [if_pos h, all_fold f 0 0 (flFine_pages (flFine_of h)) (by omega)]
theorem big_le {M : Int} : ∀ {xs : List PgAt} {n : Int}, n ≤ M → (∀ x ∈ xs, x.2.2.state = 1 → x.2.2.rc.seq ≤ M) → xs.foldl bigStep n ≤ M
  | [], _, h, _ => h
  | x :: xs, n, h, hx => by
    refine big_le (xs := xs) (n := bigStep n x) ?_ (fun y hy => hx y (List.mem_cons_of_mem _ hy))
    unfold bigStep
    split
    · rename_i h1; have := hx x (List.mem_cons_self ..) h1; omega
    · exact h
theorem le_big0 : ∀ {xs : List PgAt} {n : Int}, n ≤ xs.foldl bigStep n
  | [], _ => by show _ ≤ _; exact Int.le_refl _
  | x :: xs, n => by
    have h1 : n ≤ bigStep n x := by unfold bigStep; split <;> omega
    have h2 := le_big0 (xs := xs) (n := bigStep n x)
    show n ≤ xs.foldl bigStep (bigStep n x)
    omega
theorem le_big {x : PgAt} (h1 : x.2.2.state = 1) : ∀ {xs : List PgAt} {n : Int}, x ∈ xs → x.2.2.rc.seq ≤ xs.foldl bigStep n
  | [], _, h => by cases h
  | y :: xs, n, h => by
    show _ ≤ xs.foldl bigStep (bigStep n y)
    rcases List.mem_cons.1 h with rfl | h
    · have h2 : x.2.2.rc.seq ≤ bigStep n x := by unfold bigStep; rw [if_pos h1]; omega
      have h3 := le_big0 (xs := xs) (n := bigStep n x)
      omega
    · exact le_big h1 h
theorem tag_mem {i : Nat} {p : Pg} : ∀ {ps : List Pg} {j : Nat}, p ∈ ps → ∃ y ∈ tagFrom i j ps, y.2.2 = p
  | [], _, h => by cases h
  | q :: ps, j, h => by
    rw [tagFrom]
    rcases List.mem_cons.1 h with rfl | h
    · exact ⟨(i, j, p), List.mem_cons_self .., rfl⟩
    · obtain ⟨y, hy, e⟩ := tag_mem (j := j + 1) h
      exact ⟨y, List.mem_cons_of_mem _ hy, e⟩
theorem all_mem {p : Pg} {b : Bk} (hp : p ∈ b.pages) : ∀ {f : List Bk} {i : Nat}, b ∈ f → ∃ y ∈ allFrom i f, y.2.2 = p
  | [], _, h => by cases h
  | c :: f, i, h => by
    rw [allFrom]
    rcases List.mem_cons.1 h with rfl | h
    · obtain ⟨y, hy, e⟩ := tag_mem (i := i) (j := 0) hp
      exact ⟨y, List.mem_append_left _ hy, e⟩
    · obtain ⟨y, hy, e⟩ := all_mem hp (i := i + 1) h
      exact ⟨y, List.mem_append_right _ hy, e⟩
theorem wiped_big (f : List Bk) (k : Nat) (t : Bool) : bigOf (allFrom 0 (wipe f k t)) ≤ bigOf (allFrom 0 f) := by
  unfold bigOf
  refine big_le (le_big0) (fun x hx h1 => ?_)
  obtain ⟨b, hb, hp⟩ := mem_all hx
  unfold wipe at hb
  rcases mem_set hb with hb | rfl
  · obtain ⟨y, hy, e⟩ := all_mem hp (i := 0) hb
    rw [← e] at h1 ⊢
    exact le_big h1 hy
  · have := List.eq_of_mem_replicate hp
    rw [this] at h1
    cases t <;> exact absurd h1 (by decide)
theorem findNext_wipe {f : List Bk} {k : Nat} {t : Bool} (h1 : flashOk f = true) (h2 : flashOk (wipe f k t) = true) : 1 ≤ findNext (wipe f k t) ∧ findNext (wipe f k t) ≤ findNext f := by
  have := wiped_big f k t
  have hr := bigOf_range h2
  unfold findNext
  rw [if_pos h1, if_pos h2]
  omega
theorem findNext_new : findNext flashNew = 1 := by decide
theorem spec_FindNext (f : List Bk) (A : Option Addr) (n c : Nat) (w : World) (hn : n = f.length) (hl : f.length < 1000000000000) (hF : Fl w A f) :
    Calls Try.prog 11 #[.slice A n c] w fun e w' => e = .returned (.int .i64 (findNext f)) ∧ Below w.heap.size w w' := by
  subst hn
  by_cases hok : flashOk f = true
  · have hff := Lib.hid (flFine_of hok)
    have hfin := Lib.hid (findNext_eq hok)
    have HPL := Lib.hid (show ∀ b ∈ f, b.pages.length < 1000000000000 from fun b hb => by rw [(hff.out.2 b hb).1]; omega)
    go_enter Try.func11, Try.ntmps11
    go_wp2_with fail
    refine (spec_FlashOk f A c _ hl hF).mono ?_
    rw [hok]
    rintro e w1 ⟨rfl, hb⟩
    go_wp2_with fail
    refine (spec_l3Next f A c _ hl HPL.out (most_small hff.out) (hF.below hb (Nat.le_refl _))).mono ?_
    rintro e w2 ⟨rfl, hb2⟩
    go_wp2
    go_ret
    exact ⟨by rw [hfin.out]; rfl, hb.trans (hb2.mono hb.size)⟩
  · have hok' : flashOk f = false := by simpa using hok
    have hfin : Hid (findNext f = 0) := by unfold Hid findNext; rw [if_neg hok]
    go_enter Try.func11, Try.ntmps11
    go_wp2_with fail
    refine (spec_FlashOk f A c _ hl hF).mono ?_
    rw [hok']
    rintro e w1 ⟨rfl, hb⟩
    go_wp2
    go_ret
    exact ⟨by rw [hfin.out]; rfl, hb⟩
set_option maxHeartbeats 4000000 in
set_option maxRecDepth 100000 in
theorem law_FnNextWipe {w : World} (A : Option Addr) (bs : List Nat) (c : Nat) (hc : Code w A bs c) (A' : Option Addr) (bs' : List Nat) (c' : Nat) (hc' : Code w A' bs' c') :
    Calls Try.prog 3 #[.slice A bs.length c, .slice A' bs'.length c'] w fun e w' => e = .returned (.bool true) ∧ Below w.heap.size w w' := by
  by_cases hlen : (1048576 : Int) < bs.length
  · go_enter Try.func3, Try.ntmps3
    go_wp2
    go_ret
    exact ⟨rfl, Below.refl _ _⟩
  by_cases hlen' : (1048576 : Int) < bs'.length
  · go_enter Try.func3, Try.ntmps3
    go_wp2
    go_ret
    exact ⟨rfl, Below.refl _ _⟩
  go_enter Try.func3, Try.ntmps3
  go_wp2_with fail
  refine (spec_DrawFindNext A bs c _ hc).mono ?_
  rintro e w1 ⟨g, o, d, f, rfl, hf, hO1, hb1⟩
  have hs1 := hb1.size
  have hF := Lib.hid hf
  have hB1 := hb1
  clear hf hb1
  go_wp2_with fail
  refine (impl_FindNext f _ _ d _ rfl hO1.fl).mono ?_
  rintro e w2 ⟨rfl, hb⟩
  have hs2 := hb.size
  have hO2 := hO1.below hb (Nat.le_refl _)
  have hB2 := hB1.trans (hb.mono (by omega))
  clear hO1 hb hB1
  go_wp2_with fail
  refine (spec_FindNext f _ _ d _ rfl (small_len hF.out) hO2.fl).mono ?_
  rintro e w3 ⟨rfl, hb⟩
  have hs3 := hb.size
  have hO3 := hO2.below hb (Nat.le_refl _)
  have hB3 := hB2.trans (hb.mono (by omega))
  clear hO2 hb hB2
  go_wp2_with fail
  refine (spec_FlashOk f _ d _ (small_len hF.out) hO3.fl).mono ?_
  rintro e w4 ⟨rfl, hb⟩
  have hs4 := hb.size
  have hO4 := hO3.below hb (Nat.le_refl _)
  have hB4 := hB3.trans (hb.mono (by omega))
  clear hO3 hb hB3
  by_cases hok : flashOk f = true
  · rw [hok]
    have hfl := flashOk_len hok
    have hk4 : bs'.length % 4 < 4 := Nat.mod_lt _ (by omega)
    have hmod2 : ((bs'.length : Int) % 4) = ((bs'.length % 4 : Nat) : Int) := rfl
    generalize bs'.length % 4 = k at *
    generalize ht : ((bs'.length : Int) % 2 == 0) = t at *
    have hWi := flashWipe_eq hok hk4 t
    obtain ⟨b, hb⟩ := get_some (l := f) (k := k) (by omega)
    rw [getD_of hb] at hWi
    have hwo := fun h => wiped_ok hok hk4 t (by rw [getD_of hb]; exact h)
    have H3 := Lib.hid hWi
    have HWO := Lib.hid hwo
    have HOK := Lib.hid hok
    clear hWi hwo hok hfl hb
    by_cases hw : b.worn = 200
    · have hh := H3.out
      rw [if_pos hw] at hh
      replace H3 := Lib.hid hh
      clear hh hw HWO
      go_wp2_with fail
      refine (impl_FlashWipe f k t _ d _ hO4.fl).mono ?_
      rw [H3.out]
      rintro e w5 ⟨A5, c5, rfl, _, hO5, hb⟩
      have hs5 := hb.size
      have hBp := hB4.trans (hb.mono (by omega))
      clear hb hB4
      go_wp2_with fail
      refine (impl_FlashNew _).mono ?_
      rintro e w8 ⟨ng, rfl, hO8, hb⟩
      have hs8 := hb.size
      have hB8 := hBp.trans (hb.mono (by omega))
      clear hb hBp
      have hcall := impl_FindNext flashNew (some ⟨ng, 0, none⟩) 4 4 _ rfl hO8.fl
      rw [findNext_new] at hcall
      go_wp2_with fail
      refine hcall.mono ?_
      clear hcall
      rintro e w9 ⟨rfl, hb⟩
      have hBf := hB8.trans (hb.mono (by omega))
      go_wp2
      go_ret
      exact ⟨rfl, hBf⟩
    · have hh := H3.out
      rw [if_neg hw] at hh
      replace H3 := Lib.hid hh
      have hx := HWO.out hw
      obtain ⟨hf1, hf2⟩ := findNext_wipe HOK.out hx
      clear hh hw HWO
      go_wp2_with fail
      refine (impl_FlashWipe f k t _ d _ hO4.fl).mono ?_
      rw [H3.out]
      rintro e w5 ⟨A5, c5, rfl, _, hO5, hb⟩
      dsimp only at hO5 ⊢
      have hs5 := hb.size
      have hB5 := hB4.trans (hb.mono (by omega))
      generalize wipe f k t = x at *
      clear hb hB4 H3 hx
      go_wp2_with fail
      refine (impl_FindNext x _ _ c5 _ rfl hO5.fl).mono ?_
      rintro e w6 ⟨rfl, hb⟩
      have hs6 := hb.size
      have hO6 := hO5.below hb (Nat.le_refl _)
      have hB6 := hB5.trans (hb.mono (by omega))
      clear hb hB5 hO5
      go_wp2_with fail
      refine (impl_FindNext x _ _ c5 _ rfl hO6.fl).mono ?_
      rintro e w7 ⟨rfl, hb⟩
      have hs7 := hb.size
      have hBp := hB6.trans (hb.mono (by omega))
      clear hb hB6 hO6
      go_wp2_with fail
      refine (impl_FlashNew _).mono ?_
      rintro e w8 ⟨ng, rfl, hO8, hb⟩
      have hs8 := hb.size
      have hB8 := hBp.trans (hb.mono (by omega))
      clear hb hBp
      have hcall := impl_FindNext flashNew (some ⟨ng, 0, none⟩) 4 4 _ rfl hO8.fl
      rw [findNext_new] at hcall
      go_wp2_with fail
      refine hcall.mono ?_
      clear hcall
      rintro e w9 ⟨rfl, hb⟩
      have hBf := hB8.trans (hb.mono (by omega))
      go_wp2
      go_ret
      exact ⟨rfl, hBf⟩
  · have hok' : flashOk f = false := by simpa using hok
    rw [hok']
    go_wp2_with fail
    refine (spec_FindNext f _ _ d _ rfl (small_len hF.out) hO4.fl).mono ?_
    rintro e w5 ⟨rfl, hb⟩
    go_wp2
    go_ret
    exact ⟨by simp, hB4.trans (hb.mono (by omega))⟩
end Go.Proofs.Ytlchlhjjoddocaa
