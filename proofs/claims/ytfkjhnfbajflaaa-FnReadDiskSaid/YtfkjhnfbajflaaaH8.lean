/- Walks: the program's FindOpen. -/
import Derived.Test.YtfkjhnfbajflaaaH7
import Derived.Test.YtfkjhnfbajflaaaG5
import Derived.Deep.RegionHeld3
namespace Go.Proofs.Ytfkjhnfbajflaaa
set_option linter.unusedVariables false
set_option linter.unusedSimpArgs false
open Go.RowKit Go.Maps
set_option maxHeartbeats 400000
def partGo : Nat → List Bk → Option Nat
  | _, [] => none
  | i, b :: r => if partly b = true then some i else partGo (i + 1) r
def bestGo (f : List Bk) : Nat → Nat → Bool → List Bk → Nat × Bool
  | _, best, found, [] => (best, found)
  | i, best, found, b :: r => if clean b = 4 ∧ (found = false ∨ b.worn < (f.getD best zbk).worn) then bestGo f (i + 1) i true r else bestGo f (i + 1) best found r
def openI (f : List Bk) : Int × Bool :=
  match partGo 0 f with
  | some i => ((i : Int), true)
  | none => (((bestGo f 0 0 false f).1 : Int), (bestGo f 0 0 false f).2)
theorem openGo_eq {f : List Bk} : ∀ (r : List Bk) (i best : Nat) (found : Bool) (out : Int), (∀ b ∈ r, b.pages.length = 4) → (found = false → best = 0 ∧ out = -1) → (found = true → out = best) →
    openGo f i out r = match partGo i r with
      | some j => ((j : Int), true)
      | none => (((bestGo f i best found r).1 : Int), (bestGo f i best found r).2)
  | [], i, best, found, out, _, h1, h2 => by
    cases found
    · obtain ⟨rfl, rfl⟩ := h1 rfl; rfl
    · obtain rfl := h2 rfl
      unfold openGo partGo bestGo
      simp
  | b :: r, i, best, found, out, hp, h1, h2 => by
    have hc := clean_le4 (hp b (List.mem_cons_self ..))
    have hp' : ∀ c ∈ r, c.pages.length = 4 := fun c hc => hp c (List.mem_cons_of_mem _ hc)
    unfold openGo partGo bestGo
    by_cases hpt : 0 < clean b ∧ clean b < 4
    · have hpb : partly b = true := by unfold partly; simp [hpt.1, hpt.2]
      rw [if_pos hpt, if_pos hpb]
    · have hpb : ¬ partly b = true := by unfold partly; simpa using hpt
      rw [if_neg hpt, if_neg hpb]
      by_cases h4 : clean b = 4 ∧ (found = false ∨ b.worn < (f.getD best zbk).worn)
      · have hcond : 0 < clean b ∧ (out < 0 ∨ b.worn < (f.getD out.toNat zbk).worn) := by
          refine ⟨by omega, ?_⟩
          cases found
          · obtain ⟨_, rfl⟩ := h1 rfl; exact .inl (by omega)
          · obtain rfl := h2 rfl
            rcases h4.2 with h | h
            · cases h
            · exact .inr (by rw [Int.toNat_natCast]; exact h)
        rw [if_pos hcond, if_pos h4]
        exact openGo_eq r (i + 1) i true i hp' (fun h => by cases h) (fun _ => rfl)
      · have hcond : ¬ (0 < clean b ∧ (out < 0 ∨ b.worn < (f.getD out.toNat zbk).worn)) := by
          rintro ⟨ha, hb⟩
          have hcl : clean b = 4 := by omega
          refine h4 ⟨hcl, ?_⟩
          cases found
          · exact .inl rfl
          · obtain rfl := h2 rfl
            rcases hb with hb | hb
            · omega
            · exact .inr (by rw [Int.toNat_natCast] at hb; exact hb)
        rw [if_neg hcond, if_neg h4]
        exact openGo_eq r (i + 1) best found out hp' h1 h2
theorem openI_eq {f : List Bk} (h : ∀ b ∈ f, b.pages.length = 4) : openB f = openI f := openGo_eq f 0 0 false (-1) h (fun _ => ⟨rfl, rfl⟩) (fun h => by cases h)
def findOpen (f : List Bk) : Int × Bool := if flashOk f = true then openB f else (0, false)
set_option maxHeartbeats 4000000 in
set_option maxRecDepth 100000 in
theorem impl_FindOpen (f : List Bk) (A : Option Addr) (n c : Nat) (w : World) (hn : n = f.length) (hF : Fl w A f) :
    Calls Try.prog 11 #[.slice A n c] w fun e w' => e = .returned (.tuple #[.int .i64 (findOpen f).1, .bool (findOpen f).2]) ∧ Below w.heap.size w w' := by
  subst hn
  go_enter Try.func11, Try.ntmps11
  go_wp2_with fail
  refine (impl_FlashOk f A c _ hF).mono ?_
  rintro e w1 ⟨rfl, hb1⟩
  have hF1 := hF.below hb1 (Nat.le_refl _)
  by_cases hok : flashOk f = true
  · have HSH := Lib.hid (fun b hb => (flashOk_shape hok b hb).1)
    have hfin : Hid (findOpen f = openI f) := by unfold Hid findOpen; rw [if_pos hok, openI_eq HSH.out]
    have HL := Lib.hid (flashOk_len hok)
    rw [hok]
    clear hok
    obtain ⟨hs, hBk⟩ := hF1
    obtain ⟨g, o, rfl⟩ := hBk.addr (by intro e; have := HL.out; rw [e] at this; simp at this)
    go_wp2
    go_loopw [15] (fun i wr => ∃ k : Nat, k ≤ f.length ∧ i = .int .i64 k ∧ Below w1.heap.size w1 wr ∧ Hid (partGo 0 f = partGo k (f.drop k))) (fun i _ => f.length - (intOf i).toNat)
    case atStart => exact ⟨0, by omega, rfl, Below.refl _ _, rfl⟩
    case round =>
      obtain ⟨k, hk, rfl, hB, hT⟩ := hrel
      by_cases hlt : k < f.length
      · obtain ⟨B, hb⟩ := get_some hlt
        obtain ⟨⟨Z, cz⟩, _, c0, c1, _, _, hR, _⟩ := (hBk.below hB (Nat.le_refl _)).at_ hb
        dsimp only at c0 hR
        have hpl : B.pages.length < 1000000000000 := by rw [HSH.out B (List.mem_of_getElem? hb)]; omega
        have hk1 : (k : Int) < f.length := by omega
        have hl4 := HL.out
        have e1 : IntKind.i64.wrap ((k : Int) + 1) = (k : Int) + 1 := IntWalk.i64_in _ (by omega)
        clear hl4
        have hT2 : Hid (partGo 0 f = if partly B = true then some k else partGo (k + 1) (f.drop (k + 1))) := by rw [Hid, hT.out, drop_cons hb]; rfl
        have hRa := hR.alloc (.cells #[.slice Z B.pages.length cz, .int .i64 B.worn] 53)
        have hBa : Below w1.heap.size w1 (wr.alloc (.cells #[.slice Z B.pages.length cz, .int .i64 B.worn] 53)) := hB.alloc hB.size _
        have hsz : (wr.alloc (.cells #[.slice Z B.pages.length cz, .int .i64 B.worn] 53)).heap.size = wr.heap.size + 1 := by simp
        clear hb hT
        go_wp2_with fail
        refine (impl_partlyUsed B Z _ cz _ rfl hpl hRa).mono ?_
        rintro e w2 ⟨rfl, hb2⟩
        have hB2 := hBa.trans (hb2.mono (by have := hB.size; omega))
        by_cases hpt : partly B = true
        · have h3 : Hid (openI f = ((k : Int), true)) := by rw [Hid]; unfold openI; rw [hT2.out, if_pos hpt]
          rw [hpt]
          go_wp2
          go_ret2
          exact ⟨by rw [hfin.out, h3.out]; rfl, hb1.trans (hB2.mono hb1.size)⟩
        · have h3 : Hid (partGo 0 f = partGo (k + 1) (f.drop (k + 1))) := by rw [Hid, hT2.out, if_neg hpt]
          rw [show partly B = false from by simpa using hpt]
          go_wp2
          go_roundw
          (case rel => exact ⟨k + 1, by omega, by go_num, hB2, h3⟩)
          (case measure => simp [intOf]; omega)
      · obtain rfl : k = f.length := by omega
        have hnone : Hid (openI f = (((bestGo f 0 0 false f).1 : Int), (bestGo f 0 0 false f).2)) := by
          rw [Hid]; unfold openI; rw [hT.out, List.drop_of_length_le (Nat.le_refl _)]; rfl
        clear hT
        have hl4 := HL.out
        have hfp : 0 < f.length := by omega
        clear hl4
        go_wp2
        go_loopw [6, 7, 26] (fun q u i wl => ∃ (k m : Nat) (fd : Bool), k ≤ f.length ∧ m < f.length ∧ i = .int .i64 k ∧ q = .int .i64 m ∧ u = .bool fd ∧ Below w1.heap.size w1 wl ∧ Hid (bestGo f 0 0 false f = bestGo f k m fd (f.drop k))) (fun _ _ i _ => f.length - (intOf i).toNat)
        case atStart => exact ⟨0, 0, false, by omega, hfp, rfl, rfl, rfl, hB, rfl⟩
        case round =>
          obtain ⟨k, m, fd, hk, hm, rfl, rfl, rfl, hBl, hT⟩ := hrel
          by_cases hlt : k < f.length
          · obtain ⟨B, hb⟩ := get_some hlt
            obtain ⟨Bm, hbm⟩ := get_some hm
            have hBkl := hBk.below hBl (Nat.le_refl _)
            obtain ⟨⟨Z, cz⟩, _, c0, c1, _, _, hR, _⟩ := hBkl.at_ hb
            obtain ⟨_, _, _, m1, _⟩ := hBkl.at_ hbm
            dsimp only at c0 hR
            have hpl : B.pages.length < 1000000000000 := by rw [HSH.out B (List.mem_of_getElem? hb)]; omega
            have hcl := clean_le4 (HSH.out B (List.mem_of_getElem? hb))
            have hgm : f.getD m zbk = Bm := by rw [List.getD_eq_getElem?_getD, hbm]; rfl
            have hT2 : Hid (bestGo f 0 0 false f = if clean B = 4 ∧ (fd = false ∨ B.worn < Bm.worn) then bestGo f (k + 1) k true (f.drop (k + 1)) else bestGo f (k + 1) m fd (f.drop (k + 1))) := by rw [Hid, hT.out, drop_cons hb, bestGo, hgm]
            have hk1 : (k : Int) < f.length := by omega
            have hm1 : (m : Int) < f.length := by omega
            clear hb hbm hgm hT hBkl
            have hl4 := HL.out
            have e1 : IntKind.i64.wrap ((k : Int) + 1) = (k : Int) + 1 := IntWalk.i64_in _ (by omega)
            clear hl4
            have hnw := Row.new wr #[.slice Z B.pages.length cz, .int .i64 B.worn] 53
            obtain ⟨y0, _⟩ := hnw.at0 (j := 0) rfl
            obtain ⟨y1, _⟩ := hnw.at0 (j := 1) rfl
            have l9 : wr.heap.size < (wr.alloc (.cells #[.slice Z B.pages.length cz, .int .i64 B.worn] 53)).heap.size := by simp
            have lg0 := lt_of_cell m1
            have y2 : (wr.alloc (.cells #[.slice Z B.pages.length cz, .int .i64 B.worn] 53)).cell? ⟨g, o + m * 2 + 1, none⟩ = some (.int .i64 Bm.worn) := (((Below.refl wr.heap.size wr).alloc (Nat.le_refl _) _).cell (p := ⟨g, o + m * 2 + 1, none⟩) lg0).trans m1
            have lg : g < (wr.alloc (.cells #[.slice Z B.pages.length cz, .int .i64 B.worn] 53)).heap.size := by omega
            have hRd := (hR.alloc (.cells #[.slice Z B.pages.length cz, .int .i64 B.worn] 53)).drew
            have hBa : Below w1.heap.size w1 (wr.alloc (.cells #[.slice Z B.pages.length cz, .int .i64 B.worn] 53)) := hBl.alloc hBl.size _
            have hsz := hBa.size
            clear hnw
            by_cases hq : clean B = 4
            · have HQ := Lib.hid hq
              cases fd
              · have h3 : Hid (bestGo f 0 0 false f = bestGo f (k + 1) k true (f.drop (k + 1))) := by rw [Hid, hT2.out, if_pos ⟨hq, .inl rfl⟩]
                clear hq
                go_wp2
                refine wp_region_held_drew (S := (fun w' => w'.cell? ⟨wr.heap.size, 0, none⟩ = some (.slice Z B.pages.length cz) ∧ w'.cell? ⟨wr.heap.size, 1, none⟩ = some (.int .i64 B.worn) ∧ w'.cell? ⟨g, o + m * 2 + 1, none⟩ = some (.int .i64 Bm.worn))) (by kernel_rfl) ⟨y0, y1, y2⟩ (fun hHeld => ?_)
                refine wpAnyH_take (i := 0) (v := ?va0) rfl (by kernel_rfl) (by kernel_rfl) (by kernel_rfl) (fun _ _ _ h => h) (Or.inl ⟨by rfl, ?ya0⟩) hHeld ?ra0
                case ya0 => (intro w' hS; (try dsimp only at hS); obtain ⟨s0, s1, s2⟩ := hS; (try go_simp); (try with_reducible rfl))
                try simp only [Act.put, List.getElem_toArray, List.getElem_cons_zero, List.getElem_cons_succ, List.setIfInBounds_toArray, List.set_cons_zero, List.set_cons_succ]
                refine wpAnyH_ready (rs := [1]) (by kernel_rfl) (by simp) ?_
                refine AllReadyH.cons rfl (fun K hK => ?_) AllReadyH.nil
                go_simp
                refine (impl_freePages B Z _ cz _ rfl hpl hRd).mono ?_
                rw [HQ.out]
                rintro e w10 ⟨rfl, hb10⟩
                replace hb10 := undrew hb10
                go_wp2_with fail
                refine hK.out _ _ ⟨(hb10.cell (p := ⟨wr.heap.size, 0, none⟩) l9).trans y0, (hb10.cell (p := ⟨wr.heap.size, 1, none⟩) l9).trans y1, (hb10.cell (p := ⟨g, o + m * 2 + 1, none⟩) lg).trans y2⟩ (fun hHeld2 => ?_)
                clear hK K
                try simp only [Act.put, List.getElem_toArray, List.getElem_cons_zero, List.getElem_cons_succ, List.setIfInBounds_toArray, List.set_cons_zero, List.set_cons_succ]
                refine wpAnyH_take (i := 2) (v := ?va2) rfl (by kernel_rfl) (by kernel_rfl) (by kernel_rfl) (fun _ _ _ h => h) (Or.inl ⟨by rfl, ?ya2⟩) hHeld2 ?ra2
                case ya2 => (intro w' hS; (try dsimp only at hS); obtain ⟨s0, s1, s2⟩ := hS; (try go_simp); (try with_reducible rfl))
                try simp only [Act.put, List.getElem_toArray, List.getElem_cons_zero, List.getElem_cons_succ, List.setIfInBounds_toArray, List.set_cons_zero, List.set_cons_succ]
                refine wpAnyH_take (i := 3) (v := ?va3) rfl (by kernel_rfl) (by kernel_rfl) (by kernel_rfl) (fun _ _ _ h => h) (Or.inl ⟨by rfl, ?ya3⟩) hHeld2 ?ra3
                case ya3 => (intro w' hS; (try dsimp only at hS); obtain ⟨s0, s1, s2⟩ := hS; (try go_simp); (try with_reducible rfl))
                try simp only [Act.put, List.getElem_toArray, List.getElem_cons_zero, List.getElem_cons_succ, List.setIfInBounds_toArray, List.set_cons_zero, List.set_cons_succ]
                refine wpAnyH_take (i := 4) (v := ?va4) rfl (by kernel_rfl) (by kernel_rfl) (by kernel_rfl) (fun _ _ _ h => h) (Or.inl ⟨by rfl, ?ya4⟩) hHeld2 ?ra4
                case ya4 => (intro w' hS; (try dsimp only at hS); obtain ⟨s0, s1, s2⟩ := hS; (try go_simp); (try with_reducible rfl))
                try simp only [Act.put, List.getElem_toArray, List.getElem_cons_zero, List.getElem_cons_succ, List.setIfInBounds_toArray, List.set_cons_zero, List.set_cons_succ]
                refine wpAnyH_take (i := 5) (v := ?va5) rfl (by kernel_rfl) (by kernel_rfl) (by kernel_rfl) (fun _ _ _ h => h) (Or.inl ⟨by rfl, ?ya5⟩) hHeld2 ?ra5
                case ya5 => (intro w' hS; (try dsimp only at hS); obtain ⟨s0, s1, s2⟩ := hS; (try go_simp); (try with_reducible rfl))
                try simp only [Act.put, List.getElem_toArray, List.getElem_cons_zero, List.getElem_cons_succ, List.setIfInBounds_toArray, List.set_cons_zero, List.set_cons_succ]
                refine wpAnyH_take (i := 6) (v := ?va6) rfl (by kernel_rfl) (by kernel_rfl) (by kernel_rfl) (fun _ _ _ h => h) (Or.inl ⟨by rfl, ?ya6⟩) hHeld2 ?ra6
                case ya6 => (intro w' hS; (try dsimp only at hS); obtain ⟨s0, s1, s2⟩ := hS; (try go_simp); (try with_reducible rfl))
                try simp only [Act.put, List.getElem_toArray, List.getElem_cons_zero, List.getElem_cons_succ, List.setIfInBounds_toArray, List.set_cons_zero, List.set_cons_succ]
                refine wpAnyH_take (i := 7) (v := undef) rfl (by kernel_rfl) (by kernel_rfl) (by kernel_rfl) (fun _ _ _ h => h) (Or.inr ⟨by rfl, rfl⟩) hHeld2 ?_
                try simp only [Act.put, List.getElem_toArray, List.getElem_cons_zero, List.getElem_cons_succ, List.setIfInBounds_toArray, List.set_cons_zero, List.set_cons_succ]
                refine wpAnyH_take (i := 8) (v := undef) rfl (by kernel_rfl) (by kernel_rfl) (by kernel_rfl) (fun _ _ _ h => h) (Or.inr ⟨by rfl, rfl⟩) hHeld2 ?_
                try simp only [Act.put, List.getElem_toArray, List.getElem_cons_zero, List.getElem_cons_succ, List.setIfInBounds_toArray, List.set_cons_zero, List.set_cons_succ]
                refine wpAnyH_take (i := 9) (v := undef) rfl (by kernel_rfl) (by kernel_rfl) (by kernel_rfl) (fun _ _ _ h => h) (Or.inr ⟨by rfl, rfl⟩) hHeld2 ?_
                try simp only [Act.put, List.getElem_toArray, List.getElem_cons_zero, List.getElem_cons_succ, List.setIfInBounds_toArray, List.set_cons_zero, List.set_cons_succ]
                refine wpAnyH_take (i := 10) (v := undef) rfl (by kernel_rfl) (by kernel_rfl) (by kernel_rfl) (fun _ _ _ h => h) (Or.inr ⟨by rfl, rfl⟩) hHeld2 ?_
                try simp only [Act.put, List.getElem_toArray, List.getElem_cons_zero, List.getElem_cons_succ, List.setIfInBounds_toArray, List.set_cons_zero, List.set_cons_succ]
                refine wpAnyH_take (i := 11) (v := undef) rfl (by kernel_rfl) (by kernel_rfl) (by kernel_rfl) (fun _ _ _ h => h) (Or.inr ⟨by rfl, rfl⟩) hHeld2 ?_
                try simp only [Act.put, List.getElem_toArray, List.getElem_cons_zero, List.getElem_cons_succ, List.setIfInBounds_toArray, List.set_cons_zero, List.set_cons_succ]
                refine wpAnyH_take (i := 12) (v := undef) rfl (by kernel_rfl) (by kernel_rfl) (by kernel_rfl) (fun _ _ _ h => h) (Or.inr ⟨by rfl, rfl⟩) hHeld2 ?_
                try simp only [Act.put, List.getElem_toArray, List.getElem_cons_zero, List.getElem_cons_succ, List.setIfInBounds_toArray, List.set_cons_zero, List.set_cons_succ]
                refine wpAnyH_take (i := 13) (v := undef) rfl (by kernel_rfl) (by kernel_rfl) (by kernel_rfl) (fun _ _ _ h => h) (Or.inr ⟨by rfl, rfl⟩) hHeld2 ?_
                try simp only [Act.put, List.getElem_toArray, List.getElem_cons_zero, List.getElem_cons_succ, List.setIfInBounds_toArray, List.set_cons_zero, List.set_cons_succ]
                refine wpAnyH_take (i := 14) (v := undef) rfl (by kernel_rfl) (by kernel_rfl) (by kernel_rfl) (fun _ _ _ h => h) (Or.inr ⟨by rfl, rfl⟩) hHeld2 ?_
                try simp only [Act.put, List.getElem_toArray, List.getElem_cons_zero, List.getElem_cons_succ, List.setIfInBounds_toArray, List.set_cons_zero, List.set_cons_succ]
                refine wpAnyH_take (i := 15) (v := ?va15) rfl (by kernel_rfl) (by kernel_rfl) (by kernel_rfl) (fun _ _ _ h => h) (Or.inl ⟨by rfl, ?ya15⟩) hHeld2 ?ra15
                case ya15 => (intro w' hS; (try dsimp only at hS); obtain ⟨s0, s1, s2⟩ := hS; (try go_simp); (try with_reducible rfl))
                try simp only [Act.put, List.getElem_toArray, List.getElem_cons_zero, List.getElem_cons_succ, List.setIfInBounds_toArray, List.set_cons_zero, List.set_cons_succ]
                refine wpAnyH_take (i := 16) (v := ?va16) rfl (by kernel_rfl) (by kernel_rfl) (by kernel_rfl) (fun _ _ _ h => h) (Or.inl ⟨by rfl, ?ya16⟩) hHeld2 ?ra16
                case ya16 => (intro w' hS; (try dsimp only at hS); obtain ⟨s0, s1, s2⟩ := hS; (try go_simp); (try with_reducible rfl))
                try simp only [Act.put, List.getElem_toArray, List.getElem_cons_zero, List.getElem_cons_succ, List.setIfInBounds_toArray, List.set_cons_zero, List.set_cons_succ]
                refine wpAnyH_done (by kernel_rfl) ?_ _
                have hB10 := hBa.trans (hb10.mono hsz)
                clear y0 y1 y2 hb10
                go_wp2
                go_roundw
                (case rel => exact ⟨k + 1, k, true, by omega, by omega, by go_num, rfl, rfl, hB10, h3⟩)
                (case measure => simp [intOf]; omega)
              · by_cases hwn : B.worn < Bm.worn
                · have h3 : Hid (bestGo f 0 0 false f = bestGo f (k + 1) k true (f.drop (k + 1))) := by rw [Hid, hT2.out, if_pos ⟨hq, .inr hwn⟩]
                  clear hq
                  go_wp2
                  refine wp_region_held_drew (S := (fun w' => w'.cell? ⟨wr.heap.size, 0, none⟩ = some (.slice Z B.pages.length cz) ∧ w'.cell? ⟨wr.heap.size, 1, none⟩ = some (.int .i64 B.worn) ∧ w'.cell? ⟨g, o + m * 2 + 1, none⟩ = some (.int .i64 Bm.worn))) (by kernel_rfl) ⟨y0, y1, y2⟩ (fun hHeld => ?_)
                  refine wpAnyH_take (i := 0) (v := ?vb0) rfl (by kernel_rfl) (by kernel_rfl) (by kernel_rfl) (fun _ _ _ h => h) (Or.inl ⟨by rfl, ?yb0⟩) hHeld ?rb0
                  case yb0 => (intro w' hS; (try dsimp only at hS); obtain ⟨s0, s1, s2⟩ := hS; (try go_simp); (try with_reducible rfl))
                  try simp only [Act.put, List.getElem_toArray, List.getElem_cons_zero, List.getElem_cons_succ, List.setIfInBounds_toArray, List.set_cons_zero, List.set_cons_succ]
                  refine wpAnyH_ready (rs := [1]) (by kernel_rfl) (by simp) ?_
                  refine AllReadyH.cons rfl (fun K hK => ?_) AllReadyH.nil
                  go_simp
                  refine (impl_freePages B Z _ cz _ rfl hpl hRd).mono ?_
                  rw [HQ.out]
                  rintro e w10 ⟨rfl, hb10⟩
                  replace hb10 := undrew hb10
                  go_wp2_with fail
                  refine hK.out _ _ ⟨(hb10.cell (p := ⟨wr.heap.size, 0, none⟩) l9).trans y0, (hb10.cell (p := ⟨wr.heap.size, 1, none⟩) l9).trans y1, (hb10.cell (p := ⟨g, o + m * 2 + 1, none⟩) lg).trans y2⟩ (fun hHeld2 => ?_)
                  clear hK K
                  try simp only [Act.put, List.getElem_toArray, List.getElem_cons_zero, List.getElem_cons_succ, List.setIfInBounds_toArray, List.set_cons_zero, List.set_cons_succ]
                  refine wpAnyH_take (i := 2) (v := ?vb2) rfl (by kernel_rfl) (by kernel_rfl) (by kernel_rfl) (fun _ _ _ h => h) (Or.inl ⟨by rfl, ?yb2⟩) hHeld2 ?rb2
                  case yb2 => (intro w' hS; (try dsimp only at hS); obtain ⟨s0, s1, s2⟩ := hS; (try go_simp); (try with_reducible rfl))
                  try simp only [Act.put, List.getElem_toArray, List.getElem_cons_zero, List.getElem_cons_succ, List.setIfInBounds_toArray, List.set_cons_zero, List.set_cons_succ]
                  refine wpAnyH_take (i := 3) (v := ?vb3) rfl (by kernel_rfl) (by kernel_rfl) (by kernel_rfl) (fun _ _ _ h => h) (Or.inl ⟨by rfl, ?yb3⟩) hHeld2 ?rb3
                  case yb3 => (intro w' hS; (try dsimp only at hS); obtain ⟨s0, s1, s2⟩ := hS; (try go_simp); (try with_reducible rfl))
                  try simp only [Act.put, List.getElem_toArray, List.getElem_cons_zero, List.getElem_cons_succ, List.setIfInBounds_toArray, List.set_cons_zero, List.set_cons_succ]
                  refine wpAnyH_take (i := 4) (v := ?vb4) rfl (by kernel_rfl) (by kernel_rfl) (by kernel_rfl) (fun _ _ _ h => h) (Or.inl ⟨by rfl, ?yb4⟩) hHeld2 ?rb4
                  case yb4 => (intro w' hS; (try dsimp only at hS); obtain ⟨s0, s1, s2⟩ := hS; (try go_simp); (try with_reducible rfl))
                  try simp only [Act.put, List.getElem_toArray, List.getElem_cons_zero, List.getElem_cons_succ, List.setIfInBounds_toArray, List.set_cons_zero, List.set_cons_succ]
                  refine wpAnyH_take (i := 5) (v := ?vb5) rfl (by kernel_rfl) (by kernel_rfl) (by kernel_rfl) (fun _ _ _ h => h) (Or.inl ⟨by rfl, ?yb5⟩) hHeld2 ?rb5
                  case yb5 => (intro w' hS; (try dsimp only at hS); obtain ⟨s0, s1, s2⟩ := hS; (try go_simp); (try with_reducible rfl))
                  try simp only [Act.put, List.getElem_toArray, List.getElem_cons_zero, List.getElem_cons_succ, List.setIfInBounds_toArray, List.set_cons_zero, List.set_cons_succ]
                  refine wpAnyH_take (i := 6) (v := ?vb6) rfl (by kernel_rfl) (by kernel_rfl) (by kernel_rfl) (fun _ _ _ h => h) (Or.inl ⟨by rfl, ?yb6⟩) hHeld2 ?rb6
                  case yb6 => (intro w' hS; (try dsimp only at hS); obtain ⟨s0, s1, s2⟩ := hS; (try go_simp); (try with_reducible rfl))
                  try simp only [Act.put, List.getElem_toArray, List.getElem_cons_zero, List.getElem_cons_succ, List.setIfInBounds_toArray, List.set_cons_zero, List.set_cons_succ]
                  refine wpAnyH_take (i := 7) (v := ?vb7) rfl (by kernel_rfl) (by kernel_rfl) (by kernel_rfl) (fun _ _ _ h => h) (Or.inl ⟨by rfl, ?yb7⟩) hHeld2 ?rb7
                  case yb7 => (intro w' hS; (try dsimp only at hS); obtain ⟨s0, s1, s2⟩ := hS; (try go_simp); (try with_reducible rfl))
                  try simp only [Act.put, List.getElem_toArray, List.getElem_cons_zero, List.getElem_cons_succ, List.setIfInBounds_toArray, List.set_cons_zero, List.set_cons_succ]
                  refine wpAnyH_take (i := 8) (v := ?vb8) rfl (by kernel_rfl) (by kernel_rfl) (by kernel_rfl) (fun _ _ _ h => h) (Or.inl ⟨by rfl, ?yb8⟩) hHeld2 ?rb8
                  case yb8 => (intro w' hS; (try dsimp only at hS); obtain ⟨s0, s1, s2⟩ := hS; (try go_simp); (try with_reducible rfl))
                  try simp only [Act.put, List.getElem_toArray, List.getElem_cons_zero, List.getElem_cons_succ, List.setIfInBounds_toArray, List.set_cons_zero, List.set_cons_succ]
                  refine wpAnyH_take (i := 9) (v := ?vb9) rfl (by kernel_rfl) (by kernel_rfl) (by kernel_rfl) (fun _ _ _ h => h) (Or.inl ⟨by rfl, ?yb9⟩) hHeld2 ?rb9
                  case yb9 => (intro w' hS; (try dsimp only at hS); obtain ⟨s0, s1, s2⟩ := hS; (try go_simp); (try with_reducible rfl))
                  try simp only [Act.put, List.getElem_toArray, List.getElem_cons_zero, List.getElem_cons_succ, List.setIfInBounds_toArray, List.set_cons_zero, List.set_cons_succ]
                  refine wpAnyH_take (i := 10) (v := ?vb10) rfl (by kernel_rfl) (by kernel_rfl) (by kernel_rfl) (fun _ _ _ h => h) (Or.inl ⟨by rfl, ?yb10⟩) hHeld2 ?rb10
                  case yb10 => (intro w' hS; (try dsimp only at hS); obtain ⟨s0, s1, s2⟩ := hS; (try go_simp); (try with_reducible rfl))
                  try simp only [Act.put, List.getElem_toArray, List.getElem_cons_zero, List.getElem_cons_succ, List.setIfInBounds_toArray, List.set_cons_zero, List.set_cons_succ]
                  refine wpAnyH_take (i := 11) (v := ?vb11) rfl (by kernel_rfl) (by kernel_rfl) (by kernel_rfl) (fun _ _ _ h => h) (Or.inl ⟨by rfl, ?yb11⟩) hHeld2 ?rb11
                  case yb11 => (intro w' hS; (try dsimp only at hS); obtain ⟨s0, s1, s2⟩ := hS; (try go_simp); (try with_reducible rfl))
                  try simp only [Act.put, List.getElem_toArray, List.getElem_cons_zero, List.getElem_cons_succ, List.setIfInBounds_toArray, List.set_cons_zero, List.set_cons_succ]
                  refine wpAnyH_take (i := 12) (v := ?vb12) rfl (by kernel_rfl) (by kernel_rfl) (by kernel_rfl) (fun _ _ _ h => h) (Or.inl ⟨by rfl, ?yb12⟩) hHeld2 ?rb12
                  case yb12 => (intro w' hS; (try dsimp only at hS); obtain ⟨s0, s1, s2⟩ := hS; (try go_simp); (try with_reducible rfl))
                  try simp only [Act.put, List.getElem_toArray, List.getElem_cons_zero, List.getElem_cons_succ, List.setIfInBounds_toArray, List.set_cons_zero, List.set_cons_succ]
                  refine wpAnyH_take (i := 13) (v := ?vb13) rfl (by kernel_rfl) (by kernel_rfl) (by kernel_rfl) (fun _ _ _ h => h) (Or.inl ⟨by rfl, ?yb13⟩) hHeld2 ?rb13
                  case yb13 => (intro w' hS; (try dsimp only at hS); obtain ⟨s0, s1, s2⟩ := hS; (try go_simp); (try with_reducible rfl))
                  try simp only [Act.put, List.getElem_toArray, List.getElem_cons_zero, List.getElem_cons_succ, List.setIfInBounds_toArray, List.set_cons_zero, List.set_cons_succ]
                  refine wpAnyH_take (i := 14) (v := ?vb14) rfl (by kernel_rfl) (by kernel_rfl) (by kernel_rfl) (fun _ _ _ h => h) (Or.inl ⟨by rfl, ?yb14⟩) hHeld2 ?rb14
                  case yb14 => (intro w' hS; (try dsimp only at hS); obtain ⟨s0, s1, s2⟩ := hS; (try go_simp); (try with_reducible rfl))
                  try simp only [Act.put, List.getElem_toArray, List.getElem_cons_zero, List.getElem_cons_succ, List.setIfInBounds_toArray, List.set_cons_zero, List.set_cons_succ]
                  refine wpAnyH_take (i := 15) (v := ?vb15) rfl (by kernel_rfl) (by kernel_rfl) (by kernel_rfl) (fun _ _ _ h => h) (Or.inl ⟨by rfl, ?yb15⟩) hHeld2 ?rb15
                  case yb15 => (intro w' hS; (try dsimp only at hS); obtain ⟨s0, s1, s2⟩ := hS; (try go_simp); (try with_reducible rfl))
                  try simp only [Act.put, List.getElem_toArray, List.getElem_cons_zero, List.getElem_cons_succ, List.setIfInBounds_toArray, List.set_cons_zero, List.set_cons_succ]
                  refine wpAnyH_take (i := 16) (v := ?vb16) rfl (by kernel_rfl) (by kernel_rfl) (by kernel_rfl) (fun _ _ _ h => h) (Or.inl ⟨by rfl, ?yb16⟩) hHeld2 ?rb16
                  case yb16 => (intro w' hS; (try dsimp only at hS); obtain ⟨s0, s1, s2⟩ := hS; (try go_simp); (try with_reducible rfl))
                  try simp only [Act.put, List.getElem_toArray, List.getElem_cons_zero, List.getElem_cons_succ, List.setIfInBounds_toArray, List.set_cons_zero, List.set_cons_succ]
                  refine wpAnyH_done (by kernel_rfl) ?_ _
                  have hB10 := hBa.trans (hb10.mono hsz)
                  clear y0 y1 y2 hb10
                  go_wp2
                  go_roundw
                  (case rel => exact ⟨k + 1, k, true, by omega, by omega, by go_num, rfl, rfl, hB10, h3⟩)
                  (case measure => simp [intOf]; omega)
                · have h3 : Hid (bestGo f 0 0 false f = bestGo f (k + 1) m true (f.drop (k + 1))) := by rw [Hid, hT2.out, if_neg (by rintro ⟨_, h | h⟩; cases h; exact hwn h)]
                  clear hq
                  go_wp2
                  refine wp_region_held_drew (S := (fun w' => w'.cell? ⟨wr.heap.size, 0, none⟩ = some (.slice Z B.pages.length cz) ∧ w'.cell? ⟨wr.heap.size, 1, none⟩ = some (.int .i64 B.worn) ∧ w'.cell? ⟨g, o + m * 2 + 1, none⟩ = some (.int .i64 Bm.worn))) (by kernel_rfl) ⟨y0, y1, y2⟩ (fun hHeld => ?_)
                  refine wpAnyH_take (i := 0) (v := ?vc0) rfl (by kernel_rfl) (by kernel_rfl) (by kernel_rfl) (fun _ _ _ h => h) (Or.inl ⟨by rfl, ?yc0⟩) hHeld ?rc0
                  case yc0 => (intro w' hS; (try dsimp only at hS); obtain ⟨s0, s1, s2⟩ := hS; (try go_simp); (try with_reducible rfl))
                  try simp only [Act.put, List.getElem_toArray, List.getElem_cons_zero, List.getElem_cons_succ, List.setIfInBounds_toArray, List.set_cons_zero, List.set_cons_succ]
                  refine wpAnyH_ready (rs := [1]) (by kernel_rfl) (by simp) ?_
                  refine AllReadyH.cons rfl (fun K hK => ?_) AllReadyH.nil
                  go_simp
                  refine (impl_freePages B Z _ cz _ rfl hpl hRd).mono ?_
                  rw [HQ.out]
                  rintro e w10 ⟨rfl, hb10⟩
                  replace hb10 := undrew hb10
                  go_wp2_with fail
                  refine hK.out _ _ ⟨(hb10.cell (p := ⟨wr.heap.size, 0, none⟩) l9).trans y0, (hb10.cell (p := ⟨wr.heap.size, 1, none⟩) l9).trans y1, (hb10.cell (p := ⟨g, o + m * 2 + 1, none⟩) lg).trans y2⟩ (fun hHeld2 => ?_)
                  clear hK K
                  try simp only [Act.put, List.getElem_toArray, List.getElem_cons_zero, List.getElem_cons_succ, List.setIfInBounds_toArray, List.set_cons_zero, List.set_cons_succ]
                  refine wpAnyH_take (i := 2) (v := ?vc2) rfl (by kernel_rfl) (by kernel_rfl) (by kernel_rfl) (fun _ _ _ h => h) (Or.inl ⟨by rfl, ?yc2⟩) hHeld2 ?rc2
                  case yc2 => (intro w' hS; (try dsimp only at hS); obtain ⟨s0, s1, s2⟩ := hS; (try go_simp); (try with_reducible rfl))
                  try simp only [Act.put, List.getElem_toArray, List.getElem_cons_zero, List.getElem_cons_succ, List.setIfInBounds_toArray, List.set_cons_zero, List.set_cons_succ]
                  refine wpAnyH_take (i := 3) (v := ?vc3) rfl (by kernel_rfl) (by kernel_rfl) (by kernel_rfl) (fun _ _ _ h => h) (Or.inl ⟨by rfl, ?yc3⟩) hHeld2 ?rc3
                  case yc3 => (intro w' hS; (try dsimp only at hS); obtain ⟨s0, s1, s2⟩ := hS; (try go_simp); (try with_reducible rfl))
                  try simp only [Act.put, List.getElem_toArray, List.getElem_cons_zero, List.getElem_cons_succ, List.setIfInBounds_toArray, List.set_cons_zero, List.set_cons_succ]
                  refine wpAnyH_take (i := 4) (v := ?vc4) rfl (by kernel_rfl) (by kernel_rfl) (by kernel_rfl) (fun _ _ _ h => h) (Or.inl ⟨by rfl, ?yc4⟩) hHeld2 ?rc4
                  case yc4 => (intro w' hS; (try dsimp only at hS); obtain ⟨s0, s1, s2⟩ := hS; (try go_simp); (try with_reducible rfl))
                  try simp only [Act.put, List.getElem_toArray, List.getElem_cons_zero, List.getElem_cons_succ, List.setIfInBounds_toArray, List.set_cons_zero, List.set_cons_succ]
                  refine wpAnyH_take (i := 5) (v := ?vc5) rfl (by kernel_rfl) (by kernel_rfl) (by kernel_rfl) (fun _ _ _ h => h) (Or.inl ⟨by rfl, ?yc5⟩) hHeld2 ?rc5
                  case yc5 => (intro w' hS; (try dsimp only at hS); obtain ⟨s0, s1, s2⟩ := hS; (try go_simp); (try with_reducible rfl))
                  try simp only [Act.put, List.getElem_toArray, List.getElem_cons_zero, List.getElem_cons_succ, List.setIfInBounds_toArray, List.set_cons_zero, List.set_cons_succ]
                  refine wpAnyH_take (i := 6) (v := ?vc6) rfl (by kernel_rfl) (by kernel_rfl) (by kernel_rfl) (fun _ _ _ h => h) (Or.inl ⟨by rfl, ?yc6⟩) hHeld2 ?rc6
                  case yc6 => (intro w' hS; (try dsimp only at hS); obtain ⟨s0, s1, s2⟩ := hS; (try go_simp); (try with_reducible rfl))
                  try simp only [Act.put, List.getElem_toArray, List.getElem_cons_zero, List.getElem_cons_succ, List.setIfInBounds_toArray, List.set_cons_zero, List.set_cons_succ]
                  refine wpAnyH_take (i := 7) (v := ?vc7) rfl (by kernel_rfl) (by kernel_rfl) (by kernel_rfl) (fun _ _ _ h => h) (Or.inl ⟨by rfl, ?yc7⟩) hHeld2 ?rc7
                  case yc7 => (intro w' hS; (try dsimp only at hS); obtain ⟨s0, s1, s2⟩ := hS; (try go_simp); (try with_reducible rfl))
                  try simp only [Act.put, List.getElem_toArray, List.getElem_cons_zero, List.getElem_cons_succ, List.setIfInBounds_toArray, List.set_cons_zero, List.set_cons_succ]
                  refine wpAnyH_take (i := 8) (v := ?vc8) rfl (by kernel_rfl) (by kernel_rfl) (by kernel_rfl) (fun _ _ _ h => h) (Or.inl ⟨by rfl, ?yc8⟩) hHeld2 ?rc8
                  case yc8 => (intro w' hS; (try dsimp only at hS); obtain ⟨s0, s1, s2⟩ := hS; (try go_simp); (try with_reducible rfl))
                  try simp only [Act.put, List.getElem_toArray, List.getElem_cons_zero, List.getElem_cons_succ, List.setIfInBounds_toArray, List.set_cons_zero, List.set_cons_succ]
                  refine wpAnyH_take (i := 9) (v := ?vc9) rfl (by kernel_rfl) (by kernel_rfl) (by kernel_rfl) (fun _ _ _ h => h) (Or.inl ⟨by rfl, ?yc9⟩) hHeld2 ?rc9
                  case yc9 => (intro w' hS; (try dsimp only at hS); obtain ⟨s0, s1, s2⟩ := hS; (try go_simp); (try with_reducible rfl))
                  try simp only [Act.put, List.getElem_toArray, List.getElem_cons_zero, List.getElem_cons_succ, List.setIfInBounds_toArray, List.set_cons_zero, List.set_cons_succ]
                  refine wpAnyH_take (i := 10) (v := ?vc10) rfl (by kernel_rfl) (by kernel_rfl) (by kernel_rfl) (fun _ _ _ h => h) (Or.inl ⟨by rfl, ?yc10⟩) hHeld2 ?rc10
                  case yc10 => (intro w' hS; (try dsimp only at hS); obtain ⟨s0, s1, s2⟩ := hS; (try go_simp); (try with_reducible rfl))
                  try simp only [Act.put, List.getElem_toArray, List.getElem_cons_zero, List.getElem_cons_succ, List.setIfInBounds_toArray, List.set_cons_zero, List.set_cons_succ]
                  refine wpAnyH_take (i := 11) (v := ?vc11) rfl (by kernel_rfl) (by kernel_rfl) (by kernel_rfl) (fun _ _ _ h => h) (Or.inl ⟨by rfl, ?yc11⟩) hHeld2 ?rc11
                  case yc11 => (intro w' hS; (try dsimp only at hS); obtain ⟨s0, s1, s2⟩ := hS; (try go_simp); (try with_reducible rfl))
                  try simp only [Act.put, List.getElem_toArray, List.getElem_cons_zero, List.getElem_cons_succ, List.setIfInBounds_toArray, List.set_cons_zero, List.set_cons_succ]
                  refine wpAnyH_take (i := 12) (v := ?vc12) rfl (by kernel_rfl) (by kernel_rfl) (by kernel_rfl) (fun _ _ _ h => h) (Or.inl ⟨by rfl, ?yc12⟩) hHeld2 ?rc12
                  case yc12 => (intro w' hS; (try dsimp only at hS); obtain ⟨s0, s1, s2⟩ := hS; (try go_simp); (try with_reducible rfl))
                  try simp only [Act.put, List.getElem_toArray, List.getElem_cons_zero, List.getElem_cons_succ, List.setIfInBounds_toArray, List.set_cons_zero, List.set_cons_succ]
                  refine wpAnyH_take (i := 13) (v := ?vc13) rfl (by kernel_rfl) (by kernel_rfl) (by kernel_rfl) (fun _ _ _ h => h) (Or.inl ⟨by rfl, ?yc13⟩) hHeld2 ?rc13
                  case yc13 => (intro w' hS; (try dsimp only at hS); obtain ⟨s0, s1, s2⟩ := hS; (try go_simp); (try with_reducible rfl))
                  try simp only [Act.put, List.getElem_toArray, List.getElem_cons_zero, List.getElem_cons_succ, List.setIfInBounds_toArray, List.set_cons_zero, List.set_cons_succ]
                  refine wpAnyH_take (i := 14) (v := ?vc14) rfl (by kernel_rfl) (by kernel_rfl) (by kernel_rfl) (fun _ _ _ h => h) (Or.inl ⟨by rfl, ?yc14⟩) hHeld2 ?rc14
                  case yc14 => (intro w' hS; (try dsimp only at hS); obtain ⟨s0, s1, s2⟩ := hS; (try go_simp); (try with_reducible rfl))
                  try simp only [Act.put, List.getElem_toArray, List.getElem_cons_zero, List.getElem_cons_succ, List.setIfInBounds_toArray, List.set_cons_zero, List.set_cons_succ]
                  refine wpAnyH_take (i := 15) (v := ?vc15) rfl (by kernel_rfl) (by kernel_rfl) (by kernel_rfl) (fun _ _ _ h => h) (Or.inl ⟨by rfl, ?yc15⟩) hHeld2 ?rc15
                  case yc15 => (intro w' hS; (try dsimp only at hS); obtain ⟨s0, s1, s2⟩ := hS; (try go_simp); (try with_reducible rfl))
                  try simp only [Act.put, List.getElem_toArray, List.getElem_cons_zero, List.getElem_cons_succ, List.setIfInBounds_toArray, List.set_cons_zero, List.set_cons_succ]
                  refine wpAnyH_take (i := 16) (v := ?vc16) rfl (by kernel_rfl) (by kernel_rfl) (by kernel_rfl) (fun _ _ _ h => h) (Or.inl ⟨by rfl, ?yc16⟩) hHeld2 ?rc16
                  case yc16 => (intro w' hS; (try dsimp only at hS); obtain ⟨s0, s1, s2⟩ := hS; (try go_simp); (try with_reducible rfl))
                  try simp only [Act.put, List.getElem_toArray, List.getElem_cons_zero, List.getElem_cons_succ, List.setIfInBounds_toArray, List.set_cons_zero, List.set_cons_succ]
                  refine wpAnyH_done (by kernel_rfl) ?_ _
                  have hB10 := hBa.trans (hb10.mono hsz)
                  clear y0 y1 y2 hb10
                  go_wp2
                  go_roundw
                  (case rel => exact ⟨k + 1, m, true, by omega, hm, by go_num, rfl, rfl, hB10, h3⟩)
                  (case measure => simp [intOf]; omega)
            · have h3 : Hid (bestGo f 0 0 false f = bestGo f (k + 1) m fd (f.drop (k + 1))) := by rw [Hid, hT2.out, if_neg (fun h => hq h.1)]
              have e4 : ((clean B : Int) == 4) = false := by rw [beq_eq_false_iff_ne]; omega
              clear hq
              go_wp2
              refine wp_region_held_drew (S := (fun w' => w'.cell? ⟨wr.heap.size, 0, none⟩ = some (.slice Z B.pages.length cz) ∧ w'.cell? ⟨wr.heap.size, 1, none⟩ = some (.int .i64 B.worn) ∧ w'.cell? ⟨g, o + m * 2 + 1, none⟩ = some (.int .i64 Bm.worn))) (by kernel_rfl) ⟨y0, y1, y2⟩ (fun hHeld => ?_)
              refine wpAnyH_take (i := 0) (v := ?vd0) rfl (by kernel_rfl) (by kernel_rfl) (by kernel_rfl) (fun _ _ _ h => h) (Or.inl ⟨by rfl, ?yd0⟩) hHeld ?rd0
              case yd0 => (intro w' hS; (try dsimp only at hS); obtain ⟨s0, s1, s2⟩ := hS; (try go_simp); (try with_reducible rfl))
              try simp only [Act.put, List.getElem_toArray, List.getElem_cons_zero, List.getElem_cons_succ, List.setIfInBounds_toArray, List.set_cons_zero, List.set_cons_succ]
              refine wpAnyH_ready (rs := [1]) (by kernel_rfl) (by simp) ?_
              refine AllReadyH.cons rfl (fun K hK => ?_) AllReadyH.nil
              go_simp
              refine (impl_freePages B Z _ cz _ rfl hpl hRd).mono ?_
              rintro e w10 ⟨rfl, hb10⟩
              replace hb10 := undrew hb10
              go_wp2_with fail
              refine hK.out _ _ ⟨(hb10.cell (p := ⟨wr.heap.size, 0, none⟩) l9).trans y0, (hb10.cell (p := ⟨wr.heap.size, 1, none⟩) l9).trans y1, (hb10.cell (p := ⟨g, o + m * 2 + 1, none⟩) lg).trans y2⟩ (fun hHeld2 => ?_)
              clear hK K
              try simp only [Act.put, List.getElem_toArray, List.getElem_cons_zero, List.getElem_cons_succ, List.setIfInBounds_toArray, List.set_cons_zero, List.set_cons_succ]
              refine wpAnyH_take (i := 2) (v := ?vd2) rfl (by kernel_rfl) (by kernel_rfl) (by kernel_rfl) (fun _ _ _ h => h) (Or.inl ⟨by rfl, ?yd2⟩) hHeld2 ?rd2
              case yd2 => (intro w' hS; (try dsimp only at hS); obtain ⟨s0, s1, s2⟩ := hS; (try go_simp); (try with_reducible rfl))
              try simp only [Act.put, List.getElem_toArray, List.getElem_cons_zero, List.getElem_cons_succ, List.setIfInBounds_toArray, List.set_cons_zero, List.set_cons_succ]
              refine wpAnyH_take (i := 3) (v := ?vd3) rfl (by kernel_rfl) (by kernel_rfl) (by kernel_rfl) (fun _ _ _ h => h) (Or.inl ⟨by rfl, ?yd3⟩) hHeld2 ?rd3
              case yd3 => (intro w' hS; (try dsimp only at hS); obtain ⟨s0, s1, s2⟩ := hS; (try go_simp); (try with_reducible rfl))
              try simp only [Act.put, List.getElem_toArray, List.getElem_cons_zero, List.getElem_cons_succ, List.setIfInBounds_toArray, List.set_cons_zero, List.set_cons_succ]
              refine wpAnyH_take (i := 4) (v := undef) rfl (by kernel_rfl) (by kernel_rfl) (by kernel_rfl) (fun _ _ _ h => h) (Or.inr ⟨by rfl, rfl⟩) hHeld2 ?_
              try simp only [Act.put, List.getElem_toArray, List.getElem_cons_zero, List.getElem_cons_succ, List.setIfInBounds_toArray, List.set_cons_zero, List.set_cons_succ]
              refine wpAnyH_take (i := 5) (v := undef) rfl (by kernel_rfl) (by kernel_rfl) (by kernel_rfl) (fun _ _ _ h => h) (Or.inr ⟨by rfl, rfl⟩) hHeld2 ?_
              try simp only [Act.put, List.getElem_toArray, List.getElem_cons_zero, List.getElem_cons_succ, List.setIfInBounds_toArray, List.set_cons_zero, List.set_cons_succ]
              refine wpAnyH_take (i := 6) (v := undef) rfl (by kernel_rfl) (by kernel_rfl) (by kernel_rfl) (fun _ _ _ h => h) (Or.inr ⟨by rfl, rfl⟩) hHeld2 ?_
              try simp only [Act.put, List.getElem_toArray, List.getElem_cons_zero, List.getElem_cons_succ, List.setIfInBounds_toArray, List.set_cons_zero, List.set_cons_succ]
              refine wpAnyH_take (i := 7) (v := undef) rfl (by kernel_rfl) (by kernel_rfl) (by kernel_rfl) (fun _ _ _ h => h) (Or.inr ⟨by rfl, rfl⟩) hHeld2 ?_
              try simp only [Act.put, List.getElem_toArray, List.getElem_cons_zero, List.getElem_cons_succ, List.setIfInBounds_toArray, List.set_cons_zero, List.set_cons_succ]
              refine wpAnyH_take (i := 8) (v := undef) rfl (by kernel_rfl) (by kernel_rfl) (by kernel_rfl) (fun _ _ _ h => h) (Or.inr ⟨by rfl, rfl⟩) hHeld2 ?_
              try simp only [Act.put, List.getElem_toArray, List.getElem_cons_zero, List.getElem_cons_succ, List.setIfInBounds_toArray, List.set_cons_zero, List.set_cons_succ]
              refine wpAnyH_take (i := 9) (v := undef) rfl (by kernel_rfl) (by kernel_rfl) (by kernel_rfl) (fun _ _ _ h => h) (Or.inr ⟨by rfl, rfl⟩) hHeld2 ?_
              try simp only [Act.put, List.getElem_toArray, List.getElem_cons_zero, List.getElem_cons_succ, List.setIfInBounds_toArray, List.set_cons_zero, List.set_cons_succ]
              refine wpAnyH_take (i := 10) (v := undef) rfl (by kernel_rfl) (by kernel_rfl) (by kernel_rfl) (fun _ _ _ h => h) (Or.inr ⟨by rfl, rfl⟩) hHeld2 ?_
              try simp only [Act.put, List.getElem_toArray, List.getElem_cons_zero, List.getElem_cons_succ, List.setIfInBounds_toArray, List.set_cons_zero, List.set_cons_succ]
              refine wpAnyH_take (i := 11) (v := undef) rfl (by kernel_rfl) (by kernel_rfl) (by kernel_rfl) (fun _ _ _ h => h) (Or.inr ⟨by rfl, rfl⟩) hHeld2 ?_
              try simp only [Act.put, List.getElem_toArray, List.getElem_cons_zero, List.getElem_cons_succ, List.setIfInBounds_toArray, List.set_cons_zero, List.set_cons_succ]
              refine wpAnyH_take (i := 12) (v := undef) rfl (by kernel_rfl) (by kernel_rfl) (by kernel_rfl) (fun _ _ _ h => h) (Or.inr ⟨by rfl, rfl⟩) hHeld2 ?_
              try simp only [Act.put, List.getElem_toArray, List.getElem_cons_zero, List.getElem_cons_succ, List.setIfInBounds_toArray, List.set_cons_zero, List.set_cons_succ]
              refine wpAnyH_take (i := 13) (v := undef) rfl (by kernel_rfl) (by kernel_rfl) (by kernel_rfl) (fun _ _ _ h => h) (Or.inr ⟨by rfl, rfl⟩) hHeld2 ?_
              try simp only [Act.put, List.getElem_toArray, List.getElem_cons_zero, List.getElem_cons_succ, List.setIfInBounds_toArray, List.set_cons_zero, List.set_cons_succ]
              refine wpAnyH_take (i := 14) (v := undef) rfl (by kernel_rfl) (by kernel_rfl) (by kernel_rfl) (fun _ _ _ h => h) (Or.inr ⟨by rfl, rfl⟩) hHeld2 ?_
              try simp only [Act.put, List.getElem_toArray, List.getElem_cons_zero, List.getElem_cons_succ, List.setIfInBounds_toArray, List.set_cons_zero, List.set_cons_succ]
              refine wpAnyH_take (i := 15) (v := undef) rfl (by kernel_rfl) (by kernel_rfl) (by kernel_rfl) (fun _ _ _ h => h) (Or.inr ⟨by rfl, rfl⟩) hHeld2 ?_
              try simp only [Act.put, List.getElem_toArray, List.getElem_cons_zero, List.getElem_cons_succ, List.setIfInBounds_toArray, List.set_cons_zero, List.set_cons_succ]
              refine wpAnyH_take (i := 16) (v := ?vd16) rfl (by kernel_rfl) (by kernel_rfl) (by kernel_rfl) (fun _ _ _ h => h) (Or.inl ⟨by rfl, ?yd16⟩) hHeld2 ?rd16
              case yd16 => (intro w' hS; (try dsimp only at hS); obtain ⟨s0, s1, s2⟩ := hS; (try go_simp); (try with_reducible rfl))
              try simp only [Act.put, List.getElem_toArray, List.getElem_cons_zero, List.getElem_cons_succ, List.setIfInBounds_toArray, List.set_cons_zero, List.set_cons_succ]
              refine wpAnyH_done (by kernel_rfl) ?_ _
              have hB10 := hBa.trans (hb10.mono hsz)
              clear y0 y1 y2 hb10
              go_wp2
              go_roundw
              (case rel => exact ⟨k + 1, m, fd, by omega, hm, by go_num, rfl, rfl, hB10, h3⟩)
              (case measure => simp [intOf]; omega)
          · obtain rfl : k = f.length := by omega
            have h3 : Hid (bestGo f 0 0 false f = (m, fd)) := by rw [Hid, hT.out, List.drop_of_length_le (Nat.le_refl _)]; rfl
            go_wp2
            go_ret2
            exact ⟨by rw [hfin.out, hnone.out, h3.out]; rfl, hb1.trans (hBl.mono hb1.size)⟩
  · have hok' : flashOk f = false := by simpa using hok
    have hfin : Hid (findOpen f = (0, false)) := by unfold Hid findOpen; rw [if_neg hok]
    rw [hok']
    go_wp2
    go_ret2
    exact ⟨by rw [hfin.out]; rfl, hb1⟩
end Go.Proofs.Ytfkjhnfbajflaaa
