/- Walks: a drawn flash, perhaps with a page changed. -/
import Derived.Test.YtlchlhjjoddocaaG19
import Derived.Deep.RegionHeld3
namespace Go.Proofs.Ytlchlhjjoddocaa
set_option linter.unusedVariables false
set_option linter.unusedSimpArgs false
open Go.RowKit Go.Maps
set_option maxHeartbeats 400000
theorem rc0_small : rcSmall rc0 := ⟨⟨by decide, by decide⟩, ⟨by decide, by decide⟩, ⟨by decide, by decide⟩, ⟨by decide, by decide⟩⟩
theorem block0 {w : World} {g o : Nat} {f : List Bk} {hs : List (Option Addr × Nat)} (h : Bks w (some ⟨g, o, none⟩) f hs) (hl : f.length = 4) :
    ∃ b x, f[0]? = some b ∧ hs[0]? = some x ∧ w.cell? ⟨g, o, none⟩ = some (.slice x.1 b.pages.length x.2) := by
  obtain ⟨b, hb⟩ := get_some (l := f) (k := 0) (by omega)
  obtain ⟨x, hx, c0, _⟩ := h.at_ hb
  rw [Nat.zero_mul, Nat.add_zero] at c0
  exact ⟨b, x, hb, hx, c0⟩
set_option maxHeartbeats 4000000 in
set_option maxRecDepth 100000 in
theorem spec_DrawFlashOk (A : Option Addr) (bs : List Nat) (c : Nat) (w : World) (hc : Code w A bs c) :
    Calls Try.prog 21 #[.slice A bs.length c] w fun e w' => ∃ g o c f, e = .returned (.slice (some ⟨g, o, none⟩) f.length c) ∧ DrawnFl w w' g o f := by
  go_enter Try.func21, Try.ntmps21
  go_wp2_with fail
  refine (spec_l6Open A bs c _ hc.len hc.cap hc.byte hc.row).mono ?_
  rintro e w1 ⟨rfl, hR1, hb1⟩
  go_wp2_with fail
  refine (spec_l71Flash _ _ 0 _ (by omega) hR1).mono ?_
  rintro e w2 ⟨g, o, c, f, rfl, hf, ⟨hs, hBk, hApt⟩, hR2, hA2⟩
  have hRl := hR1.lt
  have hs1 := hb1.size
  have hs2 := hA2.size
  have hB2 : Below w.heap.size w w2 := hb1.trans (hA2.below (by omega) (fun i hi => by omega))
  have hF := Lib.hid hf
  have hRlo : w.heap.size < w1.heap.size := by omega
  clear hf hA2 hb1
  by_cases h4 : f.length = 4
  · have HL := Lib.hid h4
    have hl4 : ((f.length : Int) == 4) = true := by rw [beq_iff_eq]; omega
    obtain ⟨b, x, hb0, hx0, c0⟩ := block0 hBk h4
    have HB := Lib.hid hb0
    have hg := hApt.top g (blk_some.2 rfl)
    have hf0 : (0 : Int) < f.length := by omega
    clear hb0
    have hlen := Lib.hid (show (f.length : Int) = 4 by omega)
    clear h4
    go_wp2_with fail
    refine (spec_pickI 5 5 _ _ (0 + 600) _ rfl (by omega) (by omega) (by omega) hR2).mono ?_
    rintro e w3 ⟨k3, rfl, hk3, hR3, hA3⟩
    have hs3 := hA3.size
    have hBk3 := hBk.reader hA3 hApt hRlo
    have hB3 := hB2.trans (hA3.below (B := w.heap.size) (by omega) (fun i hi => by omega))
    replace c0 := (hA3.cell (b := g) (by omega) (by omega) o).trans c0
    clear hA3 hBk hB2
    by_cases h3 : k3 = 0
    · have t3 : ((k3 : Int) == 0) = true := by subst h3; rfl
      by_cases h5 : b.pages.length = 4
      · have hb4 := Lib.hid h5
        rw [h5] at c0
        have hR := (hBk3.pg 0 b x HB.out hx0).1
        obtain ⟨pb, po, hxe⟩ := hR.addr (pgs_ne (by intro e; rw [e] at h5; simp at h5))
        obtain ⟨X, cx⟩ := x
        dsimp only at hxe c0
        subst hxe
        have HX := Lib.hid hx0
        have hpi := hApt.in_ 0 _ pb HX.out (blk_some.2 rfl)
        have hpg : ¬ pb = g := fun e => hpi.2.2 (blk_some.2 e.symm)
        have hgp : ¬ g = pb := fun e => hpi.2.2 (blk_some.2 e)
        have hR3d := hR3.drew
        have hBk3d := hBk3.drew
        have hhid : w2.heap.size ≤ w3.drew.heap.size := hs3
        have hB3d : Below w.heap.size w w3.drew := hB3.drew
        have P4 := fun (p : Nat) (W : World) (h : p ≤ 1000000) (hr : Rd W w.heap.size w.heap.size p) => spec_pickI 4 4 _ _ p W rfl (by omega) (by omega) h hr
        have P3 := fun (p : Nat) (W : World) (h : p ≤ 1000000) (hr : Rd W w.heap.size w.heap.size p) => spec_pickI 3 3 _ _ p W rfl (by omega) (by omega) h hr
        have HP4 := Lib.hid P4
        have HP3 := Lib.hid P3
        have hgR : ¬ g = w.heap.size := by omega
        have hgl3 : g < w3.drew.heap.size := by show g < w3.heap.size; omega
        have hd0 : w3.drew.cell? ⟨g, o, none⟩ = some (.slice (some ⟨pb, po, none⟩) 4 cx) := c0
        clear h5 h3 P4 P3 hx0 hR
        go_wp2
        have hf0n : 0 < f.length := by omega
        have hfne : f ≠ [] := by intro e; rw [e] at hf0n; simp at hf0n
        have hfne2 : ¬ f.length = 0 := by omega
        clear hl4 t3
        go_region_held3 (fun w' => w'.cell? ⟨g, o, none⟩ = some (.slice (some ⟨pb, po, none⟩) 4 cx))
          (first | go_keep | trivial)
          (first
            | (go_at_call 37; with_reducible refine (HP4.out (0 + 600 + 1) _ (by omega) hR3d).mono ?_; go_loud (rintro e w4 ⟨k4, rfl, hk4, hR4, hA4⟩); have hk4' : (k4 : Int) < 4 := (by omega); have hBk4 := hBk3d.reader hA4 hApt hRlo; go_loud (have d0 := (hA4.cell hgl3 hgR o).trans hd0); have hgl4 := lt_of_cell d0)
            | (go_at_call 37; with_reducible refine (HP3.out (0 + 600 + 1 + 1) _ (by omega) hR4).mono ?_; go_loud (rintro e w5 ⟨k5, rfl, hk5, hR5, hA5⟩); have hBk5 := hBk4.reader hA5 hApt hRlo; go_loud (have e0 := (hA5.cell hgl4 hgR o).trans d0); have hRow5 := (hBk5.pg 0 b _ HB.out HX.out).1; go_loud (obtain ⟨q, hq⟩ := get_some (l := b.pages) (k := k4) (Nat.lt_of_lt_of_eq hk4 hb4.out.symm)); obtain ⟨p0, p1, p2, p3, p4⟩ := hRow5.pg hq; obtain ⟨z0, z1, z2, z3, z4⟩ := hRow5.pgf hq))
        all_goals
          have hW := wrote_page hRow5 hq ⟨k5, rc0⟩
          have hsz : w2.heap.size ≤ w5.heap.size := by have h1 := hA4.size; have h2 := hA5.size; omega
          have hB5 : Below w.heap.size w w5 := hB3d.trans ((hA4.trans hA5 (fun _ _ h => h)).below (B := w.heap.size) (by show w.heap.size ≤ w3.heap.size; omega) (fun i hi => by omega))
          have hBf := hB5.trans (hW.agr.below (B := w.heap.size) (by omega) (fun k e => by omega))
          have hOf := hBk5.setPage (p := ⟨k5, rc0⟩) hApt HB.out HX.out (by rw [hb4.out]; exact hk4) hW
          have hss := hW.size
          have hsf : flSmall (f.set 0 { b with pages := b.pages.set k4 ⟨k5, rc0⟩ }) := by
            refine flSmall_set hF.out ?_ _
            have hb0 := hF.out.2.2 b (List.mem_of_getElem? HB.out)
            refine ⟨by simpa using hb0.1, hb0.2.1, fun q hq => ?_⟩
            rcases mem_set hq with hq | rfl
            · exact hb0.2.2 q hq
            · exact ⟨⟨by dsimp only; omega, by dsimp only; omega⟩, rc0_small⟩
          clear hW hA4 hA5 p0 p1 p2 p3 p4
          go_wp2
          go_ret
          exact ⟨g, o, c, f.set 0 { b with pages := b.pages.set k4 ⟨k5, rc0⟩ }, by rw [List.length_set]; rfl, hsf, ⟨hs, hOf, hApt.mono hs1 (by simpa using hsz)⟩, hBf⟩
      · have h5' : ((b.pages.length : Int) == 4) = false := by rw [beq_eq_false_iff_ne]; omega
        have hOf : OFl w3 w.heap.size w3.heap.size (some ⟨g, o, none⟩) f := ⟨hs, hBk3, hApt.mono hs1 hs3⟩
        clear h5 h3
        go_wp2
        go_ret
        exact ⟨g, o, c, f, rfl, hF.out, hOf, hB3⟩
    · have t3 : ((k3 : Int) == 0) = false := by rw [beq_eq_false_iff_ne]; omega
      have hOf : OFl w3 w.heap.size w3.heap.size (some ⟨g, o, none⟩) f := ⟨hs, hBk3, hApt.mono hs1 hs3⟩
      clear h3
      go_wp2
      go_ret
      exact ⟨g, o, c, f, rfl, hF.out, hOf, hB3⟩
  · have hl4 : ((f.length : Int) == 4) = false := by rw [beq_eq_false_iff_ne]; omega
    have hOf : OFl w2 w.heap.size w2.heap.size (some ⟨g, o, none⟩) f := ⟨hs, hBk, hApt.mono hs1 (Nat.le_refl _)⟩
    clear h4
    go_wp2
    go_ret
    exact ⟨g, o, c, f, rfl, hF.out, hOf, hB2⟩
end Go.Proofs.Ytlchlhjjoddocaa
