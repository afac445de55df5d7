/- Walks: a step done. -/
import Derived.Test.YtfkjhnfbajflaaaG10
namespace Go.Proofs.Ytfkjhnfbajflaaa
set_option linter.unusedVariables false
set_option linter.unusedSimpArgs false
open Go.RowKit Go.Maps
set_option maxHeartbeats 400000
theorem OSt.alloc' {w : World} {lo hi : Nat} {A D : Option Addr} {f : List Bk} {xs : List Int} (h : OSt w lo hi A f D xs) (o : Obj) : OSt (w.alloc o) lo hi A f D xs := h.below (B := w.heap.size) ((Below.refl _ _).alloc (Nat.le_refl _) _) (Nat.le_refl _)
theorem cell3 {w : World} {a b c : Obj} {i : Nat} {u : Option Value} (h : (w.alloc a).cell? ⟨w.heap.size, i, none⟩ = u) : (((w.alloc a).alloc b).alloc c).cell? ⟨w.heap.size, i, none⟩ = u :=
  ((((Below.refl (w.heap.size + 1) (w.alloc a)).alloc (by simp) b).alloc (by simp) c).cell (p := ⟨w.heap.size, i, none⟩) (by show w.heap.size < _; omega)).trans h
theorem fz3 {w : World} {a b c : Obj} {i : Nat} {u : Bool} (h : (w.alloc a).frozen? ⟨w.heap.size, i, none⟩ = u) : (((w.alloc a).alloc b).alloc c).frozen? ⟨w.heap.size, i, none⟩ = u :=
  ((((Below.refl (w.heap.size + 1) (w.alloc a)).alloc (by simp) b).alloc (by simp) c).frozen (p := ⟨w.heap.size, i, none⟩) (by show w.heap.size < _; omega)).trans h
theorem top3 (w : World) (a b : Obj) (cs : Array Value) (t : TypeId) : Row (((w.alloc a).alloc b).alloc (.cells cs t)) (some ⟨w.heap.size + 1 + 1, 0, none⟩) cs.toList := by
  have := Row.new ((w.alloc a).alloc b) cs t
  simp only [World.size_alloc] at this
  exact this
theorem Row.at0 {w : World} {b : Nat} {vs : List Value} {j : Nat} {u : Value} (h : Row w (some ⟨b, 0, none⟩) vs) (hj : vs[j]? = some u) : w.cell? ⟨b, j, none⟩ = some u ∧ w.frozen? ⟨b, j, none⟩ = false := by
  obtain ⟨b', o', he, hc⟩ := h (by rintro rfl; simp at hj)
  cases he
  have := hc j u hj
  rwa [Nat.zero_add] at this
theorem row_ne6 {xs : List Int} (h : xs.length = 6) : ints xs ≠ [] := by
  intro e
  have := congrArg List.length e
  rw [ints_len, h] at this
  simp at this
set_option maxHeartbeats 4000000 in
set_option maxRecDepth 100000 in
theorem spec_l12Do (s : St) (x : Sp) (torn : Bool) (A D : Option Addr) (c d lo hi : Nat) (w : World) (hs : stFine s) (hx : spFine x) (hhi : hi ≤ w.heap.size) (hO : OSt w lo hi A s.flash D s.disk) :
    Calls Try.prog 77 #[.agg #[.slice A 4 c, .slice D 6 d], .agg #[.int .i64 x.kind, .int .i64 x.addr, .int .i64 x.val, .int .i64 x.block, .int .i64 x.rc.kind, .int .i64 x.rc.seq, .int .i64 x.rc.addr, .int .i64 x.rc.val], .bool torn] w fun r w' =>
      r = .returned (.agg #[.slice A 4 c, .slice D 6 d]) ∧ OSt w' lo hi A (doStep s x torn).flash D (doStep s x torn).disk ∧ Agr (fun b => lo ≤ b ∧ b < hi) w w' := by
  obtain ⟨k, a, v, b, rc⟩ := x
  dsimp only
  have hfin : Hid (doStep s ⟨k, a, v, b, rc⟩ torn = if k = 1 then (if torn then s else { s with disk := s.disk.set (a - 1).toNat v }) else if k = 2 then { s with flash := (wipeR s.flash b.toNat torn).1 } else if k = 3 then { s with flash := (writeR s.flash b.toNat rc torn).1 } else s) := rfl
  obtain ⟨hsf, hsd, hsv⟩ := hs
  obtain ⟨hx1, hx2, hx3⟩ := hx
  dsimp only at hx1 hx2 hx3
  have hOS := Lib.hid hO
  obtain ⟨hs, hBk, hApt, hR, hdj⟩ := hO
  have HDJ := Lib.hid hdj
  obtain ⟨db, dO, rfl⟩ := hR.addr (row_ne6 hsd)
  have hdb := HDJ.out db (blk_some.2 rfl)
  by_cases h1 : k = 1
  · subst h1
    obtain ⟨ha1, ha2, hv1, hv2⟩ := hx1 rfl
    obtain ⟨i, rfl⟩ : ∃ i : Nat, a = i + 1 := ⟨(a - 1).toNat, by omega⟩
    have hi6 : i < 6 := by omega
    have hi6' : (i : Int) < 6 := by omega
    cases torn
    · have h3 : Hid (doStep s ⟨1, i + 1, v, b, rc⟩ false = { s with disk := s.disk.set i v }) := by rw [Hid, hfin.out, if_pos rfl, show ((i : Int) + 1 - 1).toNat = i by omega]; rfl
      obtain ⟨u, hu⟩ := get_some (l := s.disk) (k := i) (by omega)
      obtain ⟨c0, f0⟩ := hR.int_ hu
      have hlt := lt_of_cell c0
      have hW := wrote_one c0 (.int .i64 v)
      have hR2 : Row (w.setCell ⟨db, dO + i, none⟩ (.int .i64 v)) (some ⟨db, dO, none⟩) (ints (s.disk.set i v)) := by
        rw [ints_set]
        exact hW.row hR (by rw [ints_len]; simp; omega)
      have hO2 : OSt (w.setCell ⟨db, dO + i, none⟩ (.int .i64 v)) lo hi A s.flash (some ⟨db, dO, none⟩) (s.disk.set i v) :=
        ⟨hs, hBk.keep fun y hy hl => hW.agr.block y hl (by
          rintro rfl
          rcases hy with hy | ⟨z, hz, hy⟩
          · exact hdb.2.2.1 hy
          · obtain ⟨j, hj⟩ := List.getElem?_of_mem hz
            exact hdb.2.2.2 j z hj hy), hApt, hR2, HDJ.out⟩
      have hA2 : Agr (fun y => lo ≤ y ∧ y < hi) w (w.setCell ⟨db, dO + i, none⟩ (.int .i64 v)) := hW.agr.mono fun y e => by rw [e]; exact ⟨hdb.1, hdb.2.1⟩
      have e1 : IntKind.i64.wrap ((i : Int) + 1 - 1) = i := by rw [show (i : Int) + 1 - 1 = i by omega]; exact IntWalk.i64_in _ (by omega)
      have e2 : IntKind.i64.wrap (i : Int) = i := IntWalk.i64_in _ (by omega)
      have HU := Lib.hid hu
      have m1 : db < w.heap.size + 1 := by omega
      have m2 : db < w.heap.size + 1 + 1 := by omega
      have n0 : db ≠ w.heap.size := by omega
      have n0' : w.heap.size ≠ db := by omega
      have n1 : db ≠ w.heap.size + 1 := by omega
      have n1' : w.heap.size + 1 ≠ db := by omega
      have n2 : db ≠ w.heap.size + 1 + 1 := by omega
      have n2' : w.heap.size + 1 + 1 ≠ db := by omega
      clear hu hW hsf hsd hsv hfin hdj
      go_enter Try.func77, Try.ntmps77
      go_wp2
      refine bodyPost_ret (v := .agg #[.slice A 4 c, .slice (some ⟨db, dO, none⟩) 6 d]) (by simp [results, Try.results77, go_sem]) rfl ⟨rfl, ?_, ?_⟩
      · rw [h3.out]; exact ((hO2.alloc' _).alloc' _).alloc' _
      · exact ((hA2.alloc _).alloc _).alloc _
    · have h3 : Hid (doStep s ⟨1, i + 1, v, b, rc⟩ true = s) := by rw [Hid, hfin.out, if_pos rfl]; rfl
      clear hsf hsd hsv hfin hdj
      go_enter Try.func77, Try.ntmps77
      go_wp2
      refine bodyPost_ret (v := .agg #[.slice A 4 c, .slice (some ⟨db, dO, none⟩) 6 d]) (by simp [results, Try.results77, go_sem]) rfl ⟨rfl, ?_, ?_⟩
      · rw [h3.out]; exact ((hOS.out.alloc' _).alloc' _).alloc' _
      · exact (((Agr.refl _ _).alloc _).alloc _).alloc _
  · have hi4s : ∀ y ∈ s.flash, y.pages.length = 4 ∧ 0 ≤ y.worn ∧ y.worn ≤ 200 := fun y hy => ⟨(hsf.2 y hy).1, (hsf.2 y hy).2.1, (hsf.2 y hy).2.2.1⟩
    have hi4p : ∀ y ∈ s.flash, y.pages.length = 4 := fun y hy => (hsf.2 y hy).1
    have HS4 := Lib.hid hi4s
    have HP4 := Lib.hid hi4p
    clear hi4s hi4p
    by_cases h2 : k = 2
    · subst h2
      have hb := hx2 (.inl rfl)
      obtain ⟨hb1, hb2⟩ := hb
      obtain ⟨i, rfl⟩ := Int.eq_ofNat_of_zero_le hb1
      have hi4 : i < 4 := by omega
      obtain ⟨g, o, rfl⟩ := hBk.addr (by intro e; have := hsf.1; rw [e] at this; simp at this)
      have h3 : Hid (doStep s ⟨2, a, v, i, rc⟩ torn = { s with flash := (wipeR s.flash i torn).1 }) := by
        rw [Hid, hfin.out, if_neg (by omega), if_pos rfl, Int.toNat_natCast]
      obtain ⟨W, hW⟩ : ∃ W, W = ((w.alloc (.cells #[.slice (some ⟨g, o, none⟩) 4 c, .slice (some ⟨db, dO, none⟩) 6 d] 39)).alloc (.cells #[.int .i64 2, .int .i64 a, .int .i64 v, .int .i64 i, .int .i64 rc.kind, .int .i64 rc.seq, .int .i64 rc.addr, .int .i64 rc.val] 115)).alloc (.cells #[.slice none 0 0, .slice none 0 0] 39) := ⟨_, rfl⟩
      have hBkW : Bks W (some ⟨g, o, none⟩) s.flash hs := by rw [hW]; exact ((hBk.alloc _).alloc _).alloc _
      have hRW : Row W (some ⟨db, dO, none⟩) (ints s.disk) := by rw [hW]; exact ((hR.alloc _).alloc _).alloc _
      have hAW : Agr (fun y => lo ≤ y ∧ y < hi) w W := by rw [hW]; exact (((Agr.refl _ _).alloc _).alloc _).alloc _
      have b0 : W.cell? ⟨w.heap.size, 0, none⟩ = some (.slice (some ⟨g, o, none⟩) 4 c) := by rw [hW]; exact cell3 (by simp)
      have b1 : W.cell? ⟨w.heap.size, 1, none⟩ = some (.slice (some ⟨db, dO, none⟩) 6 d) := by rw [hW]; exact cell3 (by simp)
      have b2 : W.frozen? ⟨w.heap.size, 0, none⟩ = false := by rw [hW]; exact fz3 (by simp)
      have q0 : W.cell? ⟨w.heap.size + 1 + 1, 0, none⟩ = some (.slice none 0 0) := by rw [hW]; exact ((top3 w _ _ #[.slice none 0 0, .slice none 0 0] 39).at0 (j := 0) rfl).1
      have q1 : W.cell? ⟨w.heap.size + 1 + 1, 1, none⟩ = some (.slice none 0 0) := by rw [hW]; exact ((top3 w _ _ #[.slice none 0 0, .slice none 0 0] 39).at0 (j := 1) rfl).1
      have q2 : W.frozen? ⟨w.heap.size + 1 + 1, 0, none⟩ = false := by rw [hW]; exact ((top3 w _ _ #[.slice none 0 0, .slice none 0 0] 39).at0 (j := 0) rfl).2
      have q3 : W.frozen? ⟨w.heap.size + 1 + 1, 1, none⟩ = false := by rw [hW]; exact ((top3 w _ _ #[.slice none 0 0, .slice none 0 0] 39).at0 (j := 1) rfl).2
      have hWs : W.heap.size = w.heap.size + 1 + 1 + 1 := by rw [hW]; simp
      have HW := Lib.hid hW
      have HSF := Lib.hid hsf
      clear hsf hsd hsv hfin hdj hW
      go_enter Try.func77, Try.ntmps77
      go_wp2_with fail
      rw [← HW.out]
      refine (spec_l2Wipe' s.flash i lo hi g o c torn _ HSF.out.1 HS4.out hi4 hs hBkW hApt).mono ?_
      rintro e w1 ⟨rfl, hBk1, hA1⟩
      have hnot : ∀ j, w.heap.size ≤ j → ¬ fblk (some ⟨g, o, none⟩) hs j := fun j hj h => by have := hApt.fblk h; omega
      replace b0 := (hA1.cell (by omega) (hnot _ (by omega)) 0).trans b0
      replace b1 := (hA1.cell (by omega) (hnot _ (by omega)) 1).trans b1
      replace b2 := (hA1.fz (by omega) (hnot _ (by omega)) 0).trans b2
      replace q0 := (hA1.cell (by omega) (hnot _ (by omega)) 0).trans q0
      replace q1 := (hA1.cell (by omega) (hnot _ (by omega)) 1).trans q1
      replace q2 := (hA1.fz (by omega) (hnot _ (by omega)) 0).trans q2
      replace q3 := (hA1.fz (by omega) (hnot _ (by omega)) 1).trans q3
      have hR1 : Row w1 (some ⟨db, dO, none⟩) (ints s.disk) := hRW.agr hA1 fun y hy hS => by
        rcases hS with h | ⟨j, z, hz, h⟩
        · exact (HDJ.out y hy).2.2.1 h
        · exact (HDJ.out y hy).2.2.2 j z hz h
      have hO1 : OSt w1 lo hi (some ⟨g, o, none⟩) (wipeR s.flash i torn).1 (some ⟨db, dO, none⟩) s.disk := ⟨hs, hBk1, hApt, hR1, HDJ.out⟩
      have hA2 : Agr (fun y => lo ≤ y ∧ y < hi) w w1 := hAW.trans hA1 fun y _ hy => hApt.fblk hy
      have hs1 := hA1.size
      clear hA1 hBk1 hR1 hRW hBkW hAW hnot
      go_wp2
      refine bodyPost_ret (v := .agg #[.slice (some ⟨g, o, none⟩) 4 c, .slice (some ⟨db, dO, none⟩) 6 d]) (by simp [results, Try.results77, go_sem, b0, b1, q0, q1]) rfl ⟨rfl, ?_, ?_⟩
      · rw [h3.out]
        have hbb : Below w.heap.size w1 (((w1.setCell ⟨w.heap.size, 0, none⟩ (.slice (some ⟨g, o, none⟩) 4 c)).setCell ⟨w.heap.size + 1 + 1, 0, none⟩ (.slice (some ⟨g, o, none⟩) 4 c)).setCell ⟨w.heap.size + 1 + 1, 1, none⟩ (.slice (some ⟨db, dO, none⟩) 6 d)) := by (repeat (first | (with_reducible exact Below.refl _ _) | (with_reducible assumption) | (refine Below.setCell ?_ (by first | omega | exact hB.size | exact hb.size | (have h := hB.size; simp; omega) | (have h := hb.size; simp; omega) | (simp; omega) | simp) _) | (refine Below.alloc ?_ (by first | omega | exact hB.size | exact hb.size | (have h := hB.size; simp; omega) | (have h := hb.size; simp; omega) | (simp; omega) | simp) _) | (refine Below.drew ?_)))
        exact hO1.keep fun y _ h2 _ => hbb.block y (by omega)
      · exact ((hA2.setCell (.inl (by simp)) _).setCell (.inl (by show w.heap.size ≤ w.heap.size + 1 + 1; omega)) _).setCell (.inl (by show w.heap.size ≤ w.heap.size + 1 + 1; omega)) _
    · by_cases h4 : k = 3
      · subst h4
        have hb := hx2 (.inr rfl)
        obtain ⟨hb1, hb2⟩ := hb
        obtain ⟨i, rfl⟩ := Int.eq_ofNat_of_zero_le hb1
        have hi4 : i < 4 := by omega
        obtain ⟨g, o, rfl⟩ := hBk.addr (by intro e; have := hsf.1; rw [e] at this; simp at this)
        have h3 : Hid (doStep s ⟨3, a, v, i, rc⟩ torn = { s with flash := (writeR s.flash i rc torn).1 }) := by
          rw [Hid, hfin.out, if_neg (by omega), if_neg (by omega), if_pos rfl, Int.toNat_natCast]
        obtain ⟨W, hW⟩ : ∃ W, W = ((w.alloc (.cells #[.slice (some ⟨g, o, none⟩) 4 c, .slice (some ⟨db, dO, none⟩) 6 d] 39)).alloc (.cells #[.int .i64 3, .int .i64 a, .int .i64 v, .int .i64 i, .int .i64 rc.kind, .int .i64 rc.seq, .int .i64 rc.addr, .int .i64 rc.val] 115)).alloc (.cells #[.slice none 0 0, .slice none 0 0] 39) := ⟨_, rfl⟩
        have hBkW : Bks W (some ⟨g, o, none⟩) s.flash hs := by rw [hW]; exact ((hBk.alloc _).alloc _).alloc _
        have hRW : Row W (some ⟨db, dO, none⟩) (ints s.disk) := by rw [hW]; exact ((hR.alloc _).alloc _).alloc _
        have hAW : Agr (fun y => lo ≤ y ∧ y < hi) w W := by rw [hW]; exact (((Agr.refl _ _).alloc _).alloc _).alloc _
        have b0 : W.cell? ⟨w.heap.size, 0, none⟩ = some (.slice (some ⟨g, o, none⟩) 4 c) := by rw [hW]; exact cell3 (by simp)
        have b1 : W.cell? ⟨w.heap.size, 1, none⟩ = some (.slice (some ⟨db, dO, none⟩) 6 d) := by rw [hW]; exact cell3 (by simp)
        have b2 : W.frozen? ⟨w.heap.size, 0, none⟩ = false := by rw [hW]; exact fz3 (by simp)
        have q0 : W.cell? ⟨w.heap.size + 1 + 1, 0, none⟩ = some (.slice none 0 0) := by rw [hW]; exact ((top3 w _ _ #[.slice none 0 0, .slice none 0 0] 39).at0 (j := 0) rfl).1
        have q1 : W.cell? ⟨w.heap.size + 1 + 1, 1, none⟩ = some (.slice none 0 0) := by rw [hW]; exact ((top3 w _ _ #[.slice none 0 0, .slice none 0 0] 39).at0 (j := 1) rfl).1
        have q2 : W.frozen? ⟨w.heap.size + 1 + 1, 0, none⟩ = false := by rw [hW]; exact ((top3 w _ _ #[.slice none 0 0, .slice none 0 0] 39).at0 (j := 0) rfl).2
        have q3 : W.frozen? ⟨w.heap.size + 1 + 1, 1, none⟩ = false := by rw [hW]; exact ((top3 w _ _ #[.slice none 0 0, .slice none 0 0] 39).at0 (j := 1) rfl).2
        have hWs : W.heap.size = w.heap.size + 1 + 1 + 1 := by rw [hW]; simp
        have HW := Lib.hid hW
        have HSF := Lib.hid hsf
        clear hsf hsd hsv hfin hdj hW
        go_enter Try.func77, Try.ntmps77
        go_wp2_with fail
        rw [← HW.out]
        refine (spec_l2Write' s.flash i lo hi g o c rc torn _ HSF.out.1 HP4.out hi4 hs hBkW hApt).mono ?_
        rintro e w1 ⟨rfl, hBk1, hA1⟩
        have hnot : ∀ j, w.heap.size ≤ j → ¬ fblk (some ⟨g, o, none⟩) hs j := fun j hj h => by have := hApt.fblk h; omega
        replace b0 := (hA1.cell (by omega) (hnot _ (by omega)) 0).trans b0
        replace b1 := (hA1.cell (by omega) (hnot _ (by omega)) 1).trans b1
        replace b2 := (hA1.fz (by omega) (hnot _ (by omega)) 0).trans b2
        replace q0 := (hA1.cell (by omega) (hnot _ (by omega)) 0).trans q0
        replace q1 := (hA1.cell (by omega) (hnot _ (by omega)) 1).trans q1
        replace q2 := (hA1.fz (by omega) (hnot _ (by omega)) 0).trans q2
        replace q3 := (hA1.fz (by omega) (hnot _ (by omega)) 1).trans q3
        have hR1 : Row w1 (some ⟨db, dO, none⟩) (ints s.disk) := hRW.agr hA1 fun y hy hS => by
          rcases hS with h | ⟨j, z, hz, h⟩
          · exact (HDJ.out y hy).2.2.1 h
          · exact (HDJ.out y hy).2.2.2 j z hz h
        have hO1 : OSt w1 lo hi (some ⟨g, o, none⟩) (writeR s.flash i rc torn).1 (some ⟨db, dO, none⟩) s.disk := ⟨hs, hBk1, hApt, hR1, HDJ.out⟩
        have hA2 : Agr (fun y => lo ≤ y ∧ y < hi) w w1 := hAW.trans hA1 fun y _ hy => hApt.fblk hy
        have hs1 := hA1.size
        clear hA1 hBk1 hR1 hRW hBkW hAW hnot
        go_wp2
        refine bodyPost_ret (v := .agg #[.slice (some ⟨g, o, none⟩) 4 c, .slice (some ⟨db, dO, none⟩) 6 d]) (by simp [results, Try.results77, go_sem, b0, b1, q0, q1]) rfl ⟨rfl, ?_, ?_⟩
        · rw [h3.out]
          have hbb : Below w.heap.size w1 (((w1.setCell ⟨w.heap.size, 0, none⟩ (.slice (some ⟨g, o, none⟩) 4 c)).setCell ⟨w.heap.size + 1 + 1, 0, none⟩ (.slice (some ⟨g, o, none⟩) 4 c)).setCell ⟨w.heap.size + 1 + 1, 1, none⟩ (.slice (some ⟨db, dO, none⟩) 6 d)) := by (repeat (first | (with_reducible exact Below.refl _ _) | (with_reducible assumption) | (refine Below.setCell ?_ (by first | omega | exact hB.size | exact hb.size | (have h := hB.size; simp; omega) | (have h := hb.size; simp; omega) | (simp; omega) | simp) _) | (refine Below.alloc ?_ (by first | omega | exact hB.size | exact hb.size | (have h := hB.size; simp; omega) | (have h := hb.size; simp; omega) | (simp; omega) | simp) _) | (refine Below.drew ?_)))
          exact hO1.keep fun y _ h2 _ => hbb.block y (by omega)
        · exact ((hA2.setCell (.inl (by simp)) _).setCell (.inl (by show w.heap.size ≤ w.heap.size + 1 + 1; omega)) _).setCell (.inl (by show w.heap.size ≤ w.heap.size + 1 + 1; omega)) _
      · have h3 : Hid (doStep s ⟨k, a, v, b, rc⟩ torn = s) := by rw [Hid, hfin.out, if_neg h1, if_neg h2, if_neg h4]
        have e1 : (k == 1) = false := by simp [h1]
        have e2 : (k == 2) = false := by simp [h2]
        have e3 : (k == 3) = false := by simp [h4]
        clear hsf hsd hsv hfin hdj
        go_enter Try.func77, Try.ntmps77
        go_wp2
        refine bodyPost_ret (v := .agg #[.slice A 4 c, .slice (some ⟨db, dO, none⟩) 6 d]) (by simp [results, Try.results77, go_sem]) rfl ⟨rfl, ?_, ?_⟩
        · rw [h3.out]; exact ((hOS.out.alloc' _).alloc' _).alloc' _
        · exact (((Agr.refl _ _).alloc _).alloc _).alloc _
end Go.Proofs.Ytfkjhnfbajflaaa
