/- Walks: the program's FlashWrite. -/
import Derived.Test.YtfkjhnfbajflaaaH1
import Derived.Test.YtfkjhnfbajflaaaG11
namespace Go.Proofs.Ytfkjhnfbajflaaa
set_option linter.unusedVariables false
set_option linter.unusedSimpArgs false
open Go.RowKit Go.Maps
set_option maxHeartbeats 400000
theorem writeR_len (f : List Bk) (i : Nat) (r : Rc) (t : Bool) : (writeR f i r t).1.length = f.length := by
  unfold writeR; split <;> simp
set_option maxHeartbeats 4000000 in
set_option maxRecDepth 100000 in
theorem impl_FlashWrite (f : List Bk) (block : Int) (r : Rc) (torn : Bool) (A : Option Addr) (n c : Nat) (w : World) (hn : n = f.length) (hF : Fl w A f) :
    Calls Try.prog 20 #[.slice A n c, .int .i64 block, .agg #[.int .i64 r.kind, .int .i64 r.seq, .int .i64 r.addr, .int .i64 r.val], .bool torn] w (FlPost (flashWrite f block r torn) w) := by
  subst hn
  have hF0 := hF.alloc (.cells #[.int .i64 r.kind, .int .i64 r.seq, .int .i64 r.addr, .int .i64 r.val] 35)
  have hB0 : Below w.heap.size w (w.alloc (.cells #[.int .i64 r.kind, .int .i64 r.seq, .int .i64 r.addr, .int .i64 r.val] 35)) := by (repeat (first | (with_reducible exact Below.refl _ _) | (with_reducible assumption) | (refine Below.setCell ?_ (by first | omega | exact hB.size | exact hb.size | (have h := hB.size; simp; omega) | (have h := hb.size; simp; omega) | (simp; omega) | simp) _) | (refine Below.alloc ?_ (by first | omega | exact hB.size | exact hb.size | (have h := hB.size; simp; omega) | (have h := hb.size; simp; omega) | (simp; omega) | simp) _) | (refine Below.drew ?_)))
  have hq := Row.new w #[.int .i64 r.kind, .int .i64 r.seq, .int .i64 r.addr, .int .i64 r.val] 35
  obtain ⟨r0, _⟩ := hq.at0 (j := 0) rfl
  obtain ⟨r1, _⟩ := hq.at0 (j := 1) rfl
  obtain ⟨r2, _⟩ := hq.at0 (j := 2) rfl
  obtain ⟨r3, _⟩ := hq.at0 (j := 3) rfl
  have hs0 : w.heap.size < (w.alloc (.cells #[.int .i64 r.kind, .int .i64 r.seq, .int .i64 r.addr, .int .i64 r.val] 35)).heap.size := by simp
  have hfin : Hid (flashWrite f block r torn = if flashOk f = false ∨ blockB block = false ∨ recOk r = false then ([], false) else writeR f block.toNat r torn) := rfl
  clear hq
  go_enter Try.func20, Try.ntmps20
  go_wp2_with fail
  refine (impl_FlashOk f A c _ hF0).mono ?_
  rintro e w1 ⟨rfl, hb⟩
  replace r0 := (hb.cell (p := ⟨w.heap.size, 0, none⟩) hs0).trans r0
  replace r1 := (hb.cell (p := ⟨w.heap.size, 1, none⟩) hs0).trans r1
  replace r2 := (hb.cell (p := ⟨w.heap.size, 2, none⟩) hs0).trans r2
  replace r3 := (hb.cell (p := ⟨w.heap.size, 3, none⟩) hs0).trans r3
  have hF1 := hF0.below hb (Nat.le_refl _)
  have hs1 : w.heap.size < w1.heap.size := Nat.lt_of_lt_of_le hs0 hb.size
  have hB1 : Below w.heap.size w w1 := hB0.trans (hb.mono (by simp))
  clear hb hB0 hF0 hs0
  by_cases hok : flashOk f = true
  · rw [hok]
    have hl := flashOk_len hok
    have hsh := Lib.hid (flashOk_shape hok)
    have HL := Lib.hid hl
    go_wp2_with fail
    refine (impl_blockOk _ _).mono ?_
    rintro e w2 ⟨rfl, rfl⟩
    by_cases hbo : blockB block = true
    · rw [hbo]
      have hb04 : 0 ≤ block ∧ block < 4 := by unfold blockB at hbo; simpa using hbo
      obtain ⟨i, rfl⟩ := Int.eq_ofNat_of_zero_le hb04.1
      have hi4 : i < 4 := by omega
      obtain ⟨B, hB⟩ := get_some (l := f) (k := i) (by omega)
      have hB4 := (hsh.out B (List.mem_of_getElem? hB)).1
      have hBget : f.getD i zbk = B := by rw [List.getD_eq_getElem?_getD, hB]; rfl
      have hcl := clean_le4 hB4
      have hi4' : (i : Int) < 4 := by omega
      go_wp2_with fail
      refine (impl_RecOk r _).mono ?_
      rintro e w2 ⟨rfl, hb⟩
      replace r0 := (hb.cell (p := ⟨w.heap.size, 0, none⟩) hs1).trans r0
      replace r1 := (hb.cell (p := ⟨w.heap.size, 1, none⟩) hs1).trans r1
      replace r2 := (hb.cell (p := ⟨w.heap.size, 2, none⟩) hs1).trans r2
      replace r3 := (hb.cell (p := ⟨w.heap.size, 3, none⟩) hs1).trans r3
      have hF2 := hF1.below hb (Nat.le_refl _)
      have hs2 : w.heap.size < w2.heap.size := Nat.lt_of_lt_of_le hs1 hb.size
      have hB2 := hB1.trans (hb.mono (by omega))
      clear hb hF1 hB1
      by_cases hro : recOk r = true
      · rw [hro]
        have hfin2 : Hid (flashWrite f i r torn = if clean B = 0 ∨ seqIn f r.seq = true then (f, false) else (f.set i { B with pages := B.pages.set (4 - clean B) (if torn then ⟨2, rc0⟩ else ⟨1, r⟩) }, true)) := by
          rw [Hid, hfin.out, if_neg (by rw [hok, hbo, hro]; simp), Int.toNat_natCast]
          unfold writeR
          rw [hBget]
        have HB := Lib.hid hB
        have HB4 := Lib.hid hB4
        clear hfin hok hbo hro hB hB4 hBget hl hb04
        go_wp2_with fail
        refine (impl_flashCopy A c f _ HL.out (fun b hb => (hsh.out b hb).1) hF2).mono ?_
        rintro e w3 ⟨g, rfl, ⟨hs, hBk, hApt⟩, hb⟩
        replace r0 := (hb.cell (p := ⟨w.heap.size, 0, none⟩) hs2).trans r0
        replace r1 := (hb.cell (p := ⟨w.heap.size, 1, none⟩) hs2).trans r1
        replace r2 := (hb.cell (p := ⟨w.heap.size, 2, none⟩) hs2).trans r2
        replace r3 := (hb.cell (p := ⟨w.heap.size, 3, none⟩) hs2).trans r3
        have hs3 : w.heap.size < w3.heap.size := Nat.lt_of_lt_of_le hs2 hb.size
        have hB3 := hB2.trans (hb.mono (by omega))
        have hlo : w.heap.size ≤ w2.heap.size := by omega
        have hhi := hb.size
        obtain ⟨⟨Z, cz⟩, hx, z0, z1, z2, z3, hR, _⟩ := hBk.at_ HB.out
        dsimp only at z0 hR
        rw [Nat.zero_add] at z0 z1 z2 z3
        rw [HB4.out] at z0
        have HX := Lib.hid hx
        have hpl : B.pages.length < 1000000000000 := by rw [HB4.out]; omega
        clear hb hF2 hB2 hx
        go_wp2_with fail
        refine (impl_freePages B Z 4 cz _ HB4.out.symm hpl hR).mono ?_
        rintro e w4 ⟨rfl, hb⟩
        replace r0 := (hb.cell (p := ⟨w.heap.size, 0, none⟩) hs3).trans r0
        replace r1 := (hb.cell (p := ⟨w.heap.size, 1, none⟩) hs3).trans r1
        replace r2 := (hb.cell (p := ⟨w.heap.size, 2, none⟩) hs3).trans r2
        replace r3 := (hb.cell (p := ⟨w.heap.size, 3, none⟩) hs3).trans r3
        have hs4 : w.heap.size < w4.heap.size := Nat.lt_of_lt_of_le hs3 hb.size
        have hB4' := hB3.trans (hb.mono (by omega))
        have hBk4 := hBk.below hb (Nat.le_refl _)
        have hhi4 := hb.size
        clear hb hBk hB3 z0 z1 z2 z3 hR
        generalize clean B = n at *
        by_cases h0 : n = 0
        · subst h0
          have h3 : Hid (flashWrite f i r torn = (f, false)) := by rw [Hid, hfin2.out, if_pos (.inl rfl)]
          go_wp2
          go_ret2
          rw [h3.out]
          exact ⟨some ⟨g, 0, none⟩, 4, ret_sl HL.out.symm, by rw [HL.out]; exact Nat.le_refl _, ⟨hs, hBk4, hApt.mono hlo hhi4⟩, hB4'⟩
        · have hn0 : ((n : Int) == 0) = false := by rw [beq_eq_false_iff_ne]; omega
          go_wp2_with fail
          refine (impl_seqUsed f r.seq _ 4 4 _ HL.out.symm (by rw [HL.out]; omega) (fun b hb => by rw [(hsh.out b hb).1]; omega) ⟨hs, hBk4⟩).mono ?_
          rintro e w5 ⟨rfl, hb⟩
          replace r0 := (hb.cell (p := ⟨w.heap.size, 0, none⟩) hs4).trans r0
          replace r1 := (hb.cell (p := ⟨w.heap.size, 1, none⟩) hs4).trans r1
          replace r2 := (hb.cell (p := ⟨w.heap.size, 2, none⟩) hs4).trans r2
          replace r3 := (hb.cell (p := ⟨w.heap.size, 3, none⟩) hs4).trans r3
          have hs5 : w.heap.size < w5.heap.size := Nat.lt_of_lt_of_le hs4 hb.size
          have hB5 := hB4'.trans (hb.mono (by omega))
          have hBk5 := hBk4.below hb (Nat.le_refl _)
          have hhi5 := hb.size
          clear hb hBk4 hB4'
          by_cases hsq : seqIn f r.seq = true
          · have h3 : Hid (flashWrite f i r torn = (f, false)) := by rw [Hid, hfin2.out, if_pos (.inr hsq)]
            rw [hsq]
            go_wp2
            go_ret2
            rw [h3.out]
            exact ⟨some ⟨g, 0, none⟩, 4, ret_sl HL.out.symm, by rw [HL.out]; exact Nat.le_refl _, ⟨hs, hBk5, hApt.mono hlo (by omega)⟩, hB5⟩
          · have h3 : Hid (flashWrite f i r torn = (f.set i { B with pages := B.pages.set (4 - n) (if torn then ⟨2, rc0⟩ else ⟨1, r⟩) }, true)) := by
              rw [Hid, hfin2.out, if_neg (by intro h; rcases h with h | h; exact h0 h; exact hsq h)]
            rw [show seqIn f r.seq = false by simpa using hsq]
            obtain ⟨j, hj⟩ : ∃ j, j + n = 4 := ⟨4 - n, by omega⟩
            have hj4 : 4 - n = j := by omega
            have e1 : IntKind.i64.wrap ((4 : Int) - n) = (j : Int) := by rw [show (4 : Int) - n = j by omega]; exact IntWalk.i64_in _ (by omega)
            have e2 : (4 : Int) - n = (j : Int) := by omega
            rw [hj4] at h3
            clear hj4 hfin2 hsq
            obtain ⟨x, hx2, y0, y1, _, _, hR1, _⟩ := hBk5.at_ HB.out
            rw [HX.out] at hx2
            cases hx2
            dsimp only at y0 hR1
            rw [HB4.out, Nat.zero_add] at y0
            obtain ⟨p, hq⟩ := get_some (l := B.pages) (k := j) (by rw [HB4.out]; omega)
            obtain ⟨pb, po, rfl⟩ := hR1.addr (pgs_ne (by intro e; rw [e] at hq; simp at hq))
            obtain ⟨c0, c1, c2, c3, c4⟩ := hR1.pg hq
            obtain ⟨f0, f1, f2, f3, f4⟩ := hR1.pgf hq
            have hj1 : (j : Int) < 4 := by omega
            have hpin := hApt.in_ i _ pb HX.out (by rw [blk_some])
            have HQ := Lib.hid hq
            have hpb := lt_of_cell c0
            have hgl := lt_of_cell y0
            have hel : ∀ X : Bk, (f.set i X).length = 4 := fun X => by rw [List.length_set]; exact HL.out
            have HEL := Lib.hid hel
            clear hq hel
            cases torn
            · have hWp := wrote_page hR1 HQ.out ⟨1, r⟩
              have hBk6 := hBk5.setPage hApt HB.out HX.out (by rw [HB4.out]; omega) hWp
              have hB6 := hB5.trans (hWp.agr.below (B := w.heap.size) (by omega) (fun k e => by omega))
              have hss := hWp.size
              clear hWp hBk5 hB5
              go_wp2
              go_region
              all_goals
                go_wp2
                go_ret2
                rw [h3.out]
                exact ⟨some ⟨g, 0, none⟩, 4, ret_sl (HEL.out _).symm, by rw [HEL.out]; exact Nat.le_refl _, ⟨hs, (hBk6.alloc _).drew, hApt.mono hlo (by simp; omega)⟩, (hB6.alloc hB6.size _).drew⟩
            · have hWp := wrote_page hR1 HQ.out ⟨2, rc0⟩
              have hBk6 := hBk5.setPage hApt HB.out HX.out (by rw [HB4.out]; omega) hWp
              have hB6 := hB5.trans (hWp.agr.below (B := w.heap.size) (by omega) (fun k e => by omega))
              have hss := hWp.size
              simp only [rc0] at hBk6 hB6
              clear hWp hBk5 hB5
              go_wp2
              go_region
              all_goals
                go_wp2
                go_ret2
                rw [h3.out]
                exact ⟨some ⟨g, 0, none⟩, 4, ret_sl (HEL.out _).symm, by rw [HEL.out]; exact Nat.le_refl _, ⟨hs, (hBk6.alloc _).drew, hApt.mono hlo (by simp; omega)⟩, (hB6.alloc hB6.size _).drew⟩
      · have hro' : recOk r = false := by simpa using hro
        have h3 : Hid (flashWrite f i r torn = ([], false)) := by rw [Hid, hfin.out, if_pos (.inr (.inr hro'))]
        rw [hro']
        go_wp2
        go_ret2
        rw [h3.out]
        exact ⟨none, 0, rfl, Nat.le_refl _, ofl_nil _ _ _, hB2⟩
    · have hbo' : blockB block = false := by simpa using hbo
      have h3 : Hid (flashWrite f block r torn = ([], false)) := by rw [Hid, hfin.out, if_pos (.inr (.inl hbo'))]
      rw [hbo']
      go_wp2
      go_ret2
      rw [h3.out]
      exact ⟨none, 0, rfl, Nat.le_refl _, ofl_nil _ _ _, hB1⟩
  · have hok' : flashOk f = false := by simpa using hok
    have h3 : Hid (flashWrite f block r torn = ([], false)) := by rw [Hid, hfin.out, if_pos (.inl hok')]
    rw [hok']
    go_wp2
    go_ret2
    rw [h3.out]
    exact ⟨none, 0, rfl, Nat.le_refl _, ofl_nil _ _ _, hB1⟩
end Go.Proofs.Ytfkjhnfbajflaaa
