/- Walks: what the reference reads of a store, and writes into blocks. -/
import Derived.Test.YtfkjhnfbajflaaaE2
import Derived.Test.YtfkjhnfbajflaaaG3
import Derived.Deep.RegionHeld3
namespace Go.Proofs.Ytfkjhnfbajflaaa
set_option linter.unusedVariables false
set_option linter.unusedSimpArgs false
open Go.RowKit Go.Maps
set_option maxHeartbeats 400000
theorem clean_le (b : Bk) : clean b ≤ b.pages.length := List.countP_le_length
theorem spec_l11Dirty (f : List Bk) (a : Int) (A D : Option Addr) (c m d : Nat) (w : World) (hl : f.length < 1000000000000) (hp : ∀ b ∈ f, b.pages.length < 1000000000000) (hF : Fl w A f) :
    Calls Try.prog 80 #[.agg #[.slice A f.length c, .slice D m d], .int .i64 a] w fun e w' => e = .returned (.bool (dirty f a)) ∧ Below w.heap.size w w' := by
  have HP := Lib.hid hp
  clear hp
  go_enter Try.func80, Try.ntmps80
  go_wp2_with fail
  refine (spec_l3Last f a A c _ hl HP.out (hF.alloc _)).mono ?_
  rintro e w1 ⟨rfl, hb⟩
  have hB : Below w.heap.size w w1 := Below.trans (by (repeat (first | (with_reducible exact Below.refl _ _) | (with_reducible assumption) | (refine Below.setCell ?_ (by first | omega | exact hB.size | exact hb.size | (have h := hB.size; simp; omega) | (have h := hb.size; simp; omega) | (simp; omega) | simp) _) | (refine Below.alloc ?_ (by first | omega | exact hB.size | exact hb.size | (have h := hB.size; simp; omega) | (have h := hb.size; simp; omega) | (simp; omega) | simp) _) | (refine Below.drew ?_)))) (hb.mono (by simp))
  have hfin : Hid (dirty f a = (decide (0 < (last f a).seq) && decide ((last f a).kind = 1))) := rfl
  clear hb
  generalize last f a = x at *
  by_cases h1 : 0 < x.seq
  · by_cases h2 : x.kind = 1
    · have h3 : Hid (dirty f a = true) := by rw [Hid, hfin.out]; simp [h1, h2]
      go_wp2
      all_goals go_ret
      all_goals exact ⟨ret_bool (by first | exact h3.out.symm | (rw [h3.out]; simp [*])), by (repeat (first | (with_reducible exact Below.refl _ _) | (with_reducible assumption) | (refine Below.setCell ?_ (by first | omega | exact hB.size | exact hb.size | (have h := hB.size; simp; omega) | (have h := hb.size; simp; omega) | (simp; omega) | simp) _) | (refine Below.alloc ?_ (by first | omega | exact hB.size | exact hb.size | (have h := hB.size; simp; omega) | (have h := hb.size; simp; omega) | (simp; omega) | simp) _) | (refine Below.drew ?_)))⟩
    · have h3 : Hid (dirty f a = false) := by rw [Hid, hfin.out]; simp [h1, h2]
      go_wp2
      all_goals go_ret
      all_goals exact ⟨ret_bool (by first | exact h3.out.symm | (rw [h3.out]; simp [*])), by (repeat (first | (with_reducible exact Below.refl _ _) | (with_reducible assumption) | (refine Below.setCell ?_ (by first | omega | exact hB.size | exact hb.size | (have h := hB.size; simp; omega) | (have h := hb.size; simp; omega) | (simp; omega) | simp) _) | (refine Below.alloc ?_ (by first | omega | exact hB.size | exact hb.size | (have h := hB.size; simp; omega) | (have h := hb.size; simp; omega) | (simp; omega) | simp) _) | (refine Below.drew ?_)))⟩
  · have h3 : Hid (dirty f a = false) := by rw [Hid, hfin.out]; simp [h1]
    go_wp2
    all_goals go_ret
    all_goals exact ⟨ret_bool (by first | exact h3.out.symm | (rw [h3.out]; simp [*])), by (repeat (first | (with_reducible exact Below.refl _ _) | (with_reducible assumption) | (refine Below.setCell ?_ (by first | omega | exact hB.size | exact hb.size | (have h := hB.size; simp; omega) | (have h := hb.size; simp; omega) | (simp; omega) | simp) _) | (refine Below.alloc ?_ (by first | omega | exact hB.size | exact hb.size | (have h := hB.size; simp; omega) | (have h := hb.size; simp; omega) | (simp; omega) | simp) _) | (refine Below.drew ?_)))⟩
theorem spec_l11Read (s : St) (a : Int) (A D : Option Addr) (c d : Nat) (w : World) (hl : s.flash.length < 1000000000000) (hp : ∀ b ∈ s.flash, b.pages.length < 1000000000000) (hd : s.disk.length = 6) (ha : 1 ≤ a) (ha2 : a ≤ 6) (hF : Fl w A s.flash) (hD : Row w D (ints s.disk)) :
    Calls Try.prog 54 #[.agg #[.slice A s.flash.length c, .slice D 6 d], .int .i64 a] w fun e w' => e = .returned (.int .i64 (readV s a)) ∧ Below w.heap.size w w' := by
  have HP := Lib.hid hp
  obtain ⟨i, rfl⟩ : ∃ i : Nat, a = i + 1 := ⟨(a - 1).toNat, by omega⟩
  have hi : i < 6 := by omega
  obtain ⟨v, hv⟩ := get_some (l := s.disk) (k := i) (by omega)
  have hgd : s.disk.getD i 0 = v := by rw [List.getD_eq_getElem?_getD, hv]; rfl
  have hne : s.disk ≠ [] := by rintro h; rw [h] at hd; simp at hd
  have hfin : Hid (readV s (i + 1) = if 0 < (last s.flash (i + 1)).seq then (last s.flash (i + 1)).val else v) := by unfold Hid readV; rw [show ((i : Int) + 1 - 1).toNat = i by omega, hgd]
  have HV := Lib.hid hv
  have hn1 : ints s.disk ≠ [] := by
    intro e; apply hne
    have := congrArg List.length e
    rw [ints_len] at this
    exact List.length_eq_zero_iff.1 this
  obtain ⟨db, dO, rfl⟩ := hD.addr hn1
  have hi6 : (i : Int) < 6 := by omega
  clear hp hv hgd hne hn1 hd
  go_enter Try.func54, Try.ntmps54
  go_wp2_with fail
  refine (spec_l3Last s.flash (i + 1) A c _ hl HP.out (hF.alloc _)).mono ?_
  rintro e w1 ⟨rfl, hb⟩
  have hB : Below w.heap.size w w1 := Below.trans (by (repeat (first | (with_reducible exact Below.refl _ _) | (with_reducible assumption) | (refine Below.setCell ?_ (by first | omega | exact hB.size | exact hb.size | (have h := hB.size; simp; omega) | (have h := hb.size; simp; omega) | (simp; omega) | simp) _) | (refine Below.alloc ?_ (by first | omega | exact hB.size | exact hb.size | (have h := hB.size; simp; omega) | (have h := hb.size; simp; omega) | (simp; omega) | simp) _) | (refine Below.drew ?_)))) (hb.mono (by simp))
  obtain ⟨hc, hf⟩ := bcell hb
  have hz : w.heap.size < w1.heap.size := by have := hb.size; simp at this; omega
  have hcv := ((hD.alloc (.cells #[.slice A s.flash.length c, .slice (some ⟨db, dO, none⟩) 6 d] 39)).below hb (Nat.le_refl _)).int_ HV.out
  obtain ⟨hcv, _⟩ := hcv
  have hdb := lt_of_cell hcv
  clear hb
  generalize last s.flash (i + 1) = x at *
  by_cases h1 : 0 < x.seq
  · have h3 : Hid (readV s (i + 1) = x.val) := by rw [Hid, hfin.out]; simp [h1]
    go_wp2
    all_goals go_ret
    all_goals exact ⟨ret_int h3.out.symm, by (repeat (first | (with_reducible exact Below.refl _ _) | (with_reducible assumption) | (refine Below.setCell ?_ (by first | omega | exact hB.size | exact hb.size | (have h := hB.size; simp; omega) | (have h := hb.size; simp; omega) | (simp; omega) | simp) _) | (refine Below.alloc ?_ (by first | omega | exact hB.size | exact hb.size | (have h := hB.size; simp; omega) | (have h := hb.size; simp; omega) | (simp; omega) | simp) _) | (refine Below.drew ?_)))⟩
  · have h3 : Hid (readV s (i + 1) = v) := by rw [Hid, hfin.out]; simp [h1]
    have e1 : IntKind.i64.wrap ((i : Int) + 1 - 1) = i := by rw [show (i : Int) + 1 - 1 = i by omega]; exact IntWalk.i64_in _ (by omega)
    go_wp2
    all_goals go_ret
    all_goals exact ⟨ret_int h3.out.symm, by (repeat (first | (with_reducible exact Below.refl _ _) | (with_reducible assumption) | (refine Below.setCell ?_ (by first | omega | exact hB.size | exact hb.size | (have h := hB.size; simp; omega) | (have h := hb.size; simp; omega) | (simp; omega) | simp) _) | (refine Below.alloc ?_ (by first | omega | exact hB.size | exact hb.size | (have h := hB.size; simp; omega) | (have h := hb.size; simp; omega) | (simp; omega) | simp) _) | (refine Below.drew ?_)))⟩
set_option maxHeartbeats 2000000 in
theorem spec_l2Write' (f : List Bk) (i lo hi g o c : Nat) (r : Rc) (torn : Bool) (w : World) (hl : f.length = 4) (hp : ∀ b ∈ f, b.pages.length = 4) (hi4 : i < 4) (hs : List (Option Addr × Nat)) (hBk : Bks w (some ⟨g, o, none⟩) f hs) (hApt : Apt lo hi (some ⟨g, o, none⟩) hs) :
    Calls Try.prog 82 #[.slice (some ⟨g, o, none⟩) 4 c, .int .i64 i, .agg #[.int .i64 r.kind, .int .i64 r.seq, .int .i64 r.addr, .int .i64 r.val], .bool torn] w fun e w' =>
      e = .returned (.tuple #[.slice (some ⟨g, o, none⟩) 4 c, .bool (writeR f i r torn).2]) ∧ Bks w' (some ⟨g, o, none⟩) (writeR f i r torn).1 hs ∧ Agr (fblk (some ⟨g, o, none⟩) hs) w w' := by
  obtain ⟨B, hB⟩ := get_some (l := f) (k := i) (by omega)
  have hBm := hp B (List.mem_of_getElem? hB)
  have hBget : f.getD i zbk = B := by rw [List.getD_eq_getElem?_getD, hB]; rfl
  have hBk0 := hBk.alloc (.cells #[.int .i64 r.kind, .int .i64 r.seq, .int .i64 r.addr, .int .i64 r.val] 35)
  obtain ⟨⟨Ap, cp⟩, hx, z0, z1, z2, z3, hR, _⟩ := hBk0.at_ hB
  dsimp only at z0 hR
  have hcl : clean B ≤ 4 := by rw [← hBm]; exact clean_le B
  have hi4' : (i : Int) < 4 := by omega
  have hfin : Hid (writeR f i r torn = if clean B = 0 ∨ seqIn f r.seq = true then (f, false) else (f.set i { B with pages := B.pages.set (4 - clean B) (if torn then ⟨2, rc0⟩ else ⟨1, r⟩) }, true)) := by unfold Hid writeR; rw [hBget]
  have HP := Lib.hid (show ∀ b ∈ f, b.pages.length < 1000000000000 from fun b hb => by rw [hp b hb]; omega)
  have hpl : B.pages.length < 1000000000000 := by omega
  have HB := Lib.hid hB
  have HBM := Lib.hid hBm
  have HX := Lib.hid hx
  have HL := Lib.hid hl
  have hl4 : f.length < 1000000000000 := by omega
  clear hl hp hBget hBm hB hx
  go_enter Try.func82, Try.ntmps82
  go_wp2_with fail
  refine (spec_l2Clean B Ap cp _ hpl hR).mono ?_
  rintro e w1 ⟨rfl, hb⟩
  have hB1 : Below w.heap.size w w1 := Below.trans (by (repeat (first | (with_reducible exact Below.refl _ _) | (with_reducible assumption) | (refine Below.setCell ?_ (by first | omega | exact hB.size | exact hb.size | (have h := hB.size; simp; omega) | (have h := hb.size; simp; omega) | (simp; omega) | simp) _) | (refine Below.alloc ?_ (by first | omega | exact hB.size | exact hb.size | (have h := hB.size; simp; omega) | (have h := hb.size; simp; omega) | (simp; omega) | simp) _) | (refine Below.drew ?_)))) (hb.mono (by simp))
  have hz : w.heap.size < w1.heap.size := by have := hb.size; simp at this; omega
  obtain ⟨hc, hf⟩ := bcell hb
  have hBk1 := hBk0.below hb (Nat.le_refl _)
  clear hb z0 z1 z2 z3 hR
  generalize clean B = n at *
  by_cases h0 : n = 0
  · subst h0
    have h3 : Hid (writeR f i r torn = (f, false)) := by rw [Hid, hfin.out, if_pos (.inl rfl)]
    go_wp2
    go_ret2
    rw [h3.out]
    exact ⟨rfl, hBk1, Agr.of_below hB1⟩
  · have hn0 : ((n : Int) == 0) = false := by rw [beq_eq_false_iff_ne]; omega
    go_wp2_with fail
    rw [← HL.out]
    refine (spec_l2Seq f r.seq _ c _ hl4 HP.out ⟨hs, hBk1⟩).mono ?_
    rintro e w2 ⟨rfl, rfl⟩
    rw [HL.out]
    by_cases hsq : seqIn f r.seq = true
    · have h3 : Hid (writeR f i r torn = (f, false)) := by rw [Hid, hfin.out, if_pos (.inr hsq)]
      rw [hsq]
      go_wp2
      go_ret2
      rw [h3.out]
      exact ⟨rfl, hBk1, Agr.of_below hB1⟩
    · have h3 : Hid (writeR f i r torn = (f.set i { B with pages := B.pages.set (4 - n) (if torn then ⟨2, rc0⟩ else ⟨1, r⟩) }, true)) := by
        rw [Hid, hfin.out, if_neg (by intro h; rcases h with h | h; exact h0 h; exact hsq h)]
      rw [show seqIn f r.seq = false by simpa using hsq]
      obtain ⟨j, hj⟩ : ∃ j, j + n = 4 := ⟨4 - n, by omega⟩
      have hj4 : 4 - n = j := by omega
      have e1 : IntKind.i64.wrap ((4 : Int) - n) = (j : Int) := by rw [show (4 : Int) - n = j by omega]; exact IntWalk.i64_in _ (by omega)
      have e2 : (4 : Int) - n = (j : Int) := by omega
      rw [hj4] at h3
      clear hj4 hfin hsq
      obtain ⟨x, hx2, y0, y1, _, _, hR1, _⟩ := hBk1.at_ HB.out
      rw [HX.out] at hx2
      cases hx2
      dsimp only at y0 hR1
      rw [HBM.out] at y0
      obtain ⟨p, hq⟩ := get_some (l := B.pages) (k := j) (by rw [HBM.out]; omega)
      obtain ⟨pb, po, rfl⟩ := hR1.addr (pgs_ne (by intro e; rw [e] at hq; simp at hq))
      obtain ⟨c0, c1, c2, c3, c4⟩ := hR1.pg hq
      obtain ⟨f0, f1, f2, f3, f4⟩ := hR1.pgf hq
      have hj1 : (j : Int) < 4 := by omega
      have hpin := hApt.in_ i _ pb HX.out (by rw [blk_some])
      have HQ := Lib.hid hq
      have hpb := lt_of_cell c0
      have hgl := lt_of_cell y0
      clear hq
      cases torn
      · have hWp := wrote_page hR1 HQ.out ⟨1, r⟩
        have hBk2 := hBk1.setPage hApt HB.out HX.out (by rw [HBM.out]; omega) hWp
        have hA2 := (Agr.of_below hB1 (S := fblk (some ⟨g, o, none⟩) hs)).trans hWp.agr (fun b _ e => .inr ⟨i, _, HX.out, by rw [e, blk_some]⟩)
        clear hWp hBk1
        go_wp2
        go_region
        go_wp2
        go_ret2
        rw [h3.out]
        exact ⟨rfl, (hBk2.alloc _).drew, (hA2.alloc _).drew⟩
      · have hWp := wrote_page hR1 HQ.out ⟨2, rc0⟩
        have hBk2 := hBk1.setPage hApt HB.out HX.out (by rw [HBM.out]; omega) hWp
        have hA2 := (Agr.of_below hB1 (S := fblk (some ⟨g, o, none⟩) hs)).trans hWp.agr (fun b _ e => .inr ⟨i, _, HX.out, by rw [e, blk_some]⟩)
        simp only [rc0] at hBk2 hA2
        clear hWp hBk1
        go_wp2
        go_region
        go_wp2
        go_ret2
        rw [h3.out]
        exact ⟨rfl, (hBk2.alloc _).drew, (hA2.alloc _).drew⟩
end Go.Proofs.Ytfkjhnfbajflaaa
