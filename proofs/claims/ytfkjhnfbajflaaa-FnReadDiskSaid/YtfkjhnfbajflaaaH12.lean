/- Walk: the program's FindOrder. -/
import Derived.Test.YtfkjhnfbajflaaaH11
import Derived.Test.YtfkjhnfbajflaaaE6
import Derived.Deep.RegionHeld3
namespace Go.Proofs.Ytfkjhnfbajflaaa
set_option linter.unusedVariables false
set_option linter.unusedSimpArgs false
open Go.RowKit Go.Maps
set_option maxHeartbeats 400000
set_option maxHeartbeats 8000000 in
set_option maxRecDepth 100000 in
theorem impl_FindOrder (f : List Bk) (A : Option Addr) (n c : Nat) (w : World) (hn : n = f.length) (hF : Fl w A f) :
    Calls Try.prog 17 #[.slice A n c] w fun e w' => e = .returned (.bool (findOrderI f)) ∧ Below w.heap.size w w' := by
  subst hn
  go_enter Try.func17, Try.ntmps17
  go_wp2_with fail
  refine (impl_FlashOk f A c _ hF).mono ?_
  rintro e w1 ⟨rfl, hb1⟩
  by_cases hok : flashOk f = true
  · have HSH := Lib.hid (fun b hb => (flashOk_shape hok b hb).1)
    have HL := Lib.hid (flashOk_len hok)
    have hfin : Hid (findOrderI f = ordI (spOf (allFrom 0 f)) f) := by unfold Hid findOrderI; rw [if_pos hok]
    have hln := spOf_len (allFrom 0 f)
    rw [hok]
    clear hok
    obtain ⟨hs, hBk⟩ := hF
    obtain ⟨g, o, rfl⟩ := hBk.addr (by intro e; have := HL.out; rw [e] at this; simp at this)
    have hlow : ∀ b, fblk (some ⟨g, o, none⟩) hs b → b < w1.heap.size := fun b hb => by
      have h4 := HL.out
      have hs1 := hb1.size
      rcases hb with hb | ⟨i, x, hx, hb⟩
      · rw [blk_some] at hb
        subst hb
        obtain ⟨B, hB⟩ := get_some (l := f) (k := 0) (by omega)
        obtain ⟨_, _, c0, _⟩ := hBk.at_ hB
        have := lt_of_cell c0
        omega
      · obtain ⟨B, hB⟩ := get_some (l := f) (k := i) (by rw [← hBk.len]; exact (List.getElem?_eq_some_iff.1 hx).1)
        have hr := (hBk.pg i B x hB hx).1
        have hB4 := HSH.out B (List.mem_of_getElem? hB)
        obtain ⟨b', o', he, hc⟩ := hr (pgs_ne (by intro e; rw [e] at hB4; simp at hB4))
        rw [he, blk_some] at hb
        subst hb
        obtain ⟨q, hq⟩ := get_some (l := pgs B.pages) (k := 0) (by rw [pgs_len]; omega)
        have := lt_of_cell (hc 0 q hq).1
        omega
    have hcall := impl_spansOf f hs g o c _ HL.out HSH.out (hBk.below hb1 (Nat.le_refl _)) hlow
    rw [← HL.out] at hcall
    go_wp2_with fail
    refine hcall.mono ?_
    clear hcall
    rw [HL.out]
    rintro e w2 ⟨sb, rfl, hsb, hR, hb2⟩
    generalize spOf (allFrom 0 f) = ss at *
    have HLN := Lib.hid hln
    have hB2 := hb1.trans (hb2.mono hb1.size)
    have hBk2 := hBk.below hB2 (Nat.le_refl _)
    have hs2 := hb2.size
    clear hln hb2 hlow hBk
    go_wp2
    go_loopw [4, 19] (fun q i wr => ∃ (k : Nat) (m : Int), k ≤ 4 ∧ i = .int .i64 k ∧ q = .int .i64 m ∧ Below w2.heap.size w2 wr ∧ Hid (ordGo ss 0 0 ss = ordGo ss k m (ss.drop k))) (fun _ i _ => 4 - (intOf i).toNat)
    case atStart => exact ⟨0, 0, by omega, rfl, rfl, Below.refl _ _, rfl⟩
    case round =>
      obtain ⟨k, m, hk, rfl, rfl, hB, hT⟩ := hrel
      by_cases hlt : k < 4
      · obtain ⟨s, hsk⟩ := get_some (l := ss) (k := k) (by rw [HLN.out]; exact hlt)
        have hRk := hR.below hB (Nat.le_refl _)
        obtain ⟨a0, a1, _, _⟩ := hRk.span hsk
        have hT2 : Hid (ordGo ss 0 0 ss = if (ss.take k).any (spClash s) = true then none else ordGo ss (k + 1) (max m s.2) (ss.drop (k + 1))) := by rw [Hid, hT.out, drop_cons hsk, ordGo]
        obtain ⟨wo, rfl⟩ : ∃ wo : World, wo = wr := ⟨_, rfl⟩
        have hk1 : (k : Int) < 4 := by omega
        have hk4 : (k : Int) ≤ 4 := by omega
        have hBa : Below w2.heap.size w2 (wo.alloc (.cells #[.int .i64 s.1, .int .i64 s.2] 65)) := hB.alloc hB.size _
        have hsz : (wo.alloc (.cells #[.int .i64 s.1, .int .i64 s.2] 65)).heap.size = wo.heap.size + 1 := by simp
        have p0 : (wo.alloc (.cells #[.int .i64 s.1, .int .i64 s.2] 65)).cell? ⟨wo.heap.size, 0, none⟩ = some (.int .i64 s.1) := by simp [go_sem]
        have p1 : (wo.alloc (.cells #[.int .i64 s.1, .int .i64 s.2] 65)).cell? ⟨wo.heap.size, 1, none⟩ = some (.int .i64 s.2) := by simp [go_sem]
        clear hsk hT hRk
        rcases Int.lt_or_le m s.2 with hmx | hmx
        case' inl => have hT3 : Hid (ordGo ss 0 0 ss = if (ss.take k).any (spClash s) = true then none else ordGo ss (k + 1) s.2 (ss.drop (k + 1))) := by rw [Hid, hT2.out, Int.max_eq_right (by omega)]
        case' inr => have hT3 : Hid (ordGo ss 0 0 ss = if (ss.take k).any (spClash s) = true then none else ordGo ss (k + 1) m (ss.drop (k + 1))) := by rw [Hid, hT2.out, Int.max_eq_left (by omega)]
        all_goals
          clear hT2
          go_wp2
          go_loopw [32] (fun i wl => ∃ j : Nat, j ≤ k ∧ i = .int .i64 j ∧ Below w2.heap.size w2 wl ∧ wo.heap.size < wl.heap.size ∧ wl.cell? ⟨wo.heap.size, 0, none⟩ = some (.int .i64 s.1) ∧ wl.cell? ⟨wo.heap.size, 1, none⟩ = some (.int .i64 s.2) ∧ Hid (∀ t ∈ ss.take j, spClash s t = false)) (fun i _ => k - (intOf i).toNat)
          case atStart => exact ⟨0, by omega, rfl, hBa, by omega, p0, p1, by rw [Hid]; simp⟩
          case round =>
            obtain ⟨j, hj, rfl, hBl, hlt2, q0, q1, hU⟩ := hrel
            by_cases hjk : j < k
            · obtain ⟨t, htj⟩ := get_some (l := ss) (k := j) (by rw [HLN.out]; omega)
              obtain ⟨b0, b1, _, _⟩ := (hR.below hBl (Nat.le_refl _)).span htj
              have hjk1 : (j : Int) < k := by omega
              have hBb := hBl.alloc hBl.size (.cells #[.int .i64 t.1, .int .i64 t.2] 65)
              have r0 : (wr.alloc (.cells #[.int .i64 t.1, .int .i64 t.2] 65)).cell? ⟨wo.heap.size, 0, none⟩ = some (.int .i64 s.1) := (((Below.refl wr.heap.size wr).alloc (Nat.le_refl _) _).cell (p := ⟨wo.heap.size, 0, none⟩) hlt2).trans q0
              have r1 : (wr.alloc (.cells #[.int .i64 t.1, .int .i64 t.2] 65)).cell? ⟨wo.heap.size, 1, none⟩ = some (.int .i64 s.2) := (((Below.refl wr.heap.size wr).alloc (Nat.le_refl _) _).cell (p := ⟨wo.heap.size, 1, none⟩) hlt2).trans q1
              have hgt : wo.heap.size < (wr.alloc (.cells #[.int .i64 t.1, .int .i64 t.2] 65)).heap.size := by simp; omega
              have hcl : spClash s t = false → Hid (∀ t ∈ ss.take (j + 1), spClash s t = false) := fun hc t' ht' => by
                rw [List.take_add_one, htj] at ht'
                rcases List.mem_append.1 ht' with h | h
                · exact hU.out t' h
                · simp at h; rw [h]; exact hc
              have HCL := Lib.hid hcl
              have hhit : spClash s t = true → Hid (ordGo ss 0 0 ss = none) := fun hc => by
                rw [Hid, hT3.out, if_pos]
                rw [List.any_eq_true]
                exact ⟨t, List.mem_iff_getElem?.2 ⟨j, by rw [List.getElem?_take, if_pos hjk]; exact htj⟩, hc⟩
              have HHIT := Lib.hid hhit
              clear hcl hhit htj hU p0 p1 q0 q1 hmx
              by_cases h1 : 0 < s.2
              · by_cases h2 : 0 < t.2
                · by_cases h3 : t.1 ≤ s.2
                  · by_cases h4 : s.1 ≤ t.2
                    · have hx := HHIT.out (by simp [spClash, h1, h2, h3, h4])
                      go_wp2
                      go_ret
                      exact ⟨ret_bool (by rw [hfin.out]; unfold ordI; rw [hx.out]), hB2.trans (hBb.mono hB2.size)⟩
                    · have hx := HCL.out (by simp [spClash, h4])
                      go_wp2
                      go_roundw
                      (case rel => exact ⟨j + 1, by omega, by go_num, hBb, hgt, r0, r1, hx⟩)
                      (case measure => simp [intOf]; omega)
                  · have hx := HCL.out (by simp [spClash, h3])
                    go_wp2
                    go_roundw
                    (case rel => exact ⟨j + 1, by omega, by go_num, hBb, hgt, r0, r1, hx⟩)
                    (case measure => simp [intOf]; omega)
                · have hx := HCL.out (by simp [spClash, h2])
                  go_wp2
                  go_roundw
                  (case rel => exact ⟨j + 1, by omega, by go_num, hBb, hgt, r0, r1, hx⟩)
                  (case measure => simp [intOf]; omega)
              · have hx := HCL.out (by simp [spClash, h1])
                go_wp2
                go_roundw
                (case rel => exact ⟨j + 1, by omega, by go_num, hBb, hgt, r0, r1, hx⟩)
                (case measure => simp [intOf]; omega)
            · obtain rfl : j = k := by omega
              have hx : (ss.take j).any (spClash s) = false := by
                rw [List.any_eq_false]
                exact fun t ht => by rw [hU.out t ht]; simp
              have hT4 := hT3.out
              rw [if_neg (by rw [hx]; simp)] at hT4
              replace hT4 := Lib.hid hT4
              clear hx hT3
              go_wp2
              go_roundw
              (case rel => exact ⟨j + 1, _, by omega, by go_num, rfl, hBl, hT4⟩)
              (case measure => simp [intOf]; omega)
      · have hk4 : (4 : Int) ≤ (k : Int) := by omega
        have h3 : Hid (ordGo ss 0 0 ss = some m) := by rw [Hid, hT.out, List.drop_of_length_le (by rw [HLN.out]; omega)]; rfl
        have hfin2 : Hid (findOrderI f = partOrd ss m 0 0 f) := by rw [Hid, hfin.out, ordI, h3.out]
        clear hT h3
        have hf4 := HL.out
        have hBz := hB
        obtain ⟨wo, rfl⟩ : ∃ wo : World, wo = wr := ⟨_, rfl⟩
        go_wp2
        go_loopw [9, 62] (fun q i wl => ∃ k c : Nat, k ≤ 4 ∧ c ≤ k ∧ i = .int .i64 k ∧ q = .int .i64 c ∧ Below w2.heap.size w2 wl ∧ Hid (partOrd ss m 0 0 f = partOrd ss m k c (f.drop k))) (fun _ i _ => 4 - (intOf i).toNat)
        case atStart => exact ⟨0, 0, by omega, by omega, rfl, rfl, hBz, rfl⟩
        case round =>
          obtain ⟨k, n, hk, hn, rfl, rfl, hB, hT⟩ := hrel
          by_cases hlt : k < 4
          · obtain ⟨B, hb⟩ := get_some (l := f) (k := k) (by omega)
            obtain ⟨s, hsk⟩ := get_some (l := ss) (k := k) (by rw [HLN.out]; exact hlt)
            have hgs : ss.getD k (0, 0) = s := by rw [List.getD_eq_getElem?_getD, hsk]; rfl
            obtain ⟨⟨Z, cz⟩, _, c0, c1, _, _, hRz, _⟩ := (hBk2.below hB (Nat.le_refl _)).at_ hb
            dsimp only at c0 hRz
            have hpl : B.pages.length < 1000000000000 := by rw [HSH.out B (List.mem_of_getElem? hb)]; omega
            have hk1 : (k : Int) < 4 := by omega
            have hT2 : Hid (partOrd ss m 0 0 f = if partly B = true then (if 0 < s.2 ∧ s.2 < m then false else partOrd ss m (k + 1) (n + 1) (f.drop (k + 1))) else partOrd ss m (k + 1) n (f.drop (k + 1))) := by rw [Hid, hT.out, drop_cons hb, partOrd, hgs]
            have hRa := hRz.alloc (.cells #[.slice Z B.pages.length cz, .int .i64 B.worn] 53)
            have hBa : Below w2.heap.size w2 (wr.alloc (.cells #[.slice Z B.pages.length cz, .int .i64 B.worn] 53)) := hB.alloc hB.size _
            have hsz : (wr.alloc (.cells #[.slice Z B.pages.length cz, .int .i64 B.worn] 53)).heap.size = wr.heap.size + 1 := by simp
            clear hb hT hgs hRz
            go_wp2_with fail
            refine (impl_partlyUsed B Z _ cz _ rfl hpl hRa).mono ?_
            rintro e w3 ⟨rfl, hb3⟩
            have hB3 := hBa.trans (hb3.mono (by have := hB.size; omega))
            obtain ⟨_, a1, _, _⟩ := (hR.below hB3 (Nat.le_refl _)).span hsk
            clear hsk hb3 hBa hRa
            by_cases hpt : partly B = true
            · have hT3 := hT2.out
              rw [if_pos hpt] at hT3
              replace hT3 := Lib.hid hT3
              rw [hpt]
              clear hpt hT2
              by_cases h1 : 0 < s.2
              · by_cases h2 : s.2 < m
                · have hx := hT3.out
                  rw [if_pos ⟨h1, h2⟩] at hx
                  replace hx := Lib.hid hx
                  clear hT3
                  go_wp2
                  go_ret
                  exact ⟨ret_bool (by rw [hfin2.out, hx.out]), hB2.trans (hB3.mono hB2.size)⟩
                · have hx := hT3.out
                  rw [if_neg (fun h => h2 h.2)] at hx
                  replace hx := Lib.hid hx
                  clear hT3
                  go_wp2
                  go_roundw
                  (case rel => exact ⟨k + 1, n + 1, by omega, by omega, by go_num, by go_num, hB3, hx⟩)
                  (case measure => simp [intOf]; omega)
              · have hx := hT3.out
                rw [if_neg (fun h => h1 h.1)] at hx
                replace hx := Lib.hid hx
                clear hT3
                go_wp2
                go_roundw
                (case rel => exact ⟨k + 1, n + 1, by omega, by omega, by go_num, by go_num, hB3, hx⟩)
                (case measure => simp [intOf]; omega)
            · have hx := hT2.out
              rw [if_neg hpt] at hx
              replace hx := Lib.hid hx
              rw [show partly B = false from by simpa using hpt]
              clear hT2 hpt
              go_wp2
              go_roundw
              (case rel => exact ⟨k + 1, n, by omega, by omega, by go_num, rfl, hB3, hx⟩)
              (case measure => simp [intOf]; omega)
          · obtain rfl : k = 4 := by omega
            have hx : Hid (partOrd ss m 0 0 f = decide (n ≤ 1)) := by rw [Hid, hT.out, List.drop_of_length_le (by omega)]; rfl
            have hz : decide ((n : Int) ≤ 1) = decide (n ≤ 1) := by rw [decide_eq_decide]; omega
            replace hz := Lib.hid hz
            clear hT
            go_wp2
            go_ret
            exact ⟨ret_bool (by rw [hfin2.out, hx.out]; exact hz.out), hB2.trans (hB.mono hB2.size)⟩
  · have hok' : flashOk f = false := by simpa using hok
    have hfin : Hid (findOrderI f = false) := by unfold Hid findOrderI; rw [if_neg hok]
    rw [hok']
    go_wp2
    go_ret
    exact ⟨ret_bool (by rw [hfin.out]), hb1⟩
end Go.Proofs.Ytfkjhnfbajflaaa
