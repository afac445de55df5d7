/- Walks: draws of stores; FnAll, FnStoreNew, FnReadDisk. -/
import Derived.Test.YtfkjhnfbajflaaaH18
import Derived.Test.YtfkjhnfbajflaaaE9
import Derived.Test.YtfkjhnfbajflaaaL1
import Derived.Test.YtfkjhnfbajflaaaQ2
namespace Go.Proofs.Ytfkjhnfbajflaaa
set_option linter.unusedVariables false
set_option linter.unusedSimpArgs false
open Go.RowKit Go.Maps
set_option maxHeartbeats 400000
def DrawnSt (w : World) (e : Ending) (w' : World) : Prop :=
  ∃ (A D : Option Addr) (c d : Nat) (s : St), e = .returned (.agg #[.slice A s.flash.length c, .slice D s.disk.length d]) ∧ stSmall s ∧ OSt w' w.heap.size w'.heap.size A s.flash D s.disk ∧ Below w.heap.size w w'
set_option maxHeartbeats 2000000 in
theorem spec_DrawStoreAll (A : Option Addr) (bs : List Nat) (c : Nat) (w : World) (hc : Code w A bs c) : Calls Try.prog 21 #[.slice A bs.length c] w (DrawnSt w) := by
  have hq := Row.new w #[.slice none 0 0, .slice none 0 0] 39
  obtain ⟨q0, f0⟩ := hq.at0 (j := 0) rfl
  obtain ⟨q1, f1⟩ := hq.at0 (j := 1) rfl
  have hs0 : (w.alloc (.cells #[.slice none 0 0, .slice none 0 0] 39)).heap.size = w.heap.size + 1 := by simp
  have hB0 : Below w.heap.size w (w.alloc (.cells #[.slice none 0 0, .slice none 0 0] 39)) := by (repeat (first | (with_reducible exact Below.refl _ _) | (with_reducible assumption) | (refine Below.setCell ?_ (by first | omega | exact hB.size | exact hb.size | (have h := hB.size; simp; omega) | (have h := hb.size; simp; omega) | (simp; omega) | simp) _) | (refine Below.alloc ?_ (by first | omega | exact hB.size | exact hb.size | (have h := hB.size; simp; omega) | (have h := hb.size; simp; omega) | (simp; omega) | simp) _) | (refine Below.drew ?_)))
  clear hq
  go_enter Try.func21, Try.ntmps21
  go_wp2_with fail
  refine (spec_l6Open A bs c _ hc.len hc.cap hc.byte (hc.row.alloc _)).mono ?_
  rintro e w1 ⟨rfl, hR1, hb1⟩
  have hs1 := hb1.size
  rw [hs0] at hs1 hb1 hR1
  replace q0 := (hb1.cell (p := ⟨w.heap.size, 0, none⟩) (by show w.heap.size < _; omega)).trans q0
  replace q1 := (hb1.cell (p := ⟨w.heap.size, 1, none⟩) (by show w.heap.size < _; omega)).trans q1
  replace f0 := (hb1.frozen (p := ⟨w.heap.size, 0, none⟩) (by show w.heap.size < _; omega)).trans f0
  replace f1 := (hb1.frozen (p := ⟨w.heap.size, 1, none⟩) (by show w.heap.size < _; omega)).trans f1
  have hB1 := hB0.trans (hb1.mono (by omega))
  have hRl := hR1.lt
  clear hb1 hB0
  go_wp2_with fail
  refine (spec_l71Store _ _ 0 _ (by omega) hR1).mono ?_
  rintro e w2 ⟨A2, D2, c2, d2, s, rfl, hsm, hO, hR2, hA2⟩
  have hs2 := hA2.size
  replace q0 := (hA2.cell (b := w.heap.size) (by omega) (by omega) 0).trans q0
  replace q1 := (hA2.cell (b := w.heap.size) (by omega) (by omega) 1).trans q1
  replace f0 := (hA2.fz (b := w.heap.size) (by omega) (by omega) 0).trans f0
  replace f1 := (hA2.fz (b := w.heap.size) (by omega) (by omega) 1).trans f1
  have hB2 := hB1.trans (hA2.below (B := w.heap.size) (by omega) (fun i hi => by omega))
  have hL := laid_cells q0 q1 (.slice A2 s.flash.length c2) (.slice D2 s.disk.length d2)
  have hOf := hO.agr hL.agr (fun b h1 h2 h3 => by omega)
  have hBf := hB2.trans (hL.agr.below (B := w.heap.size) (by omega) (fun i hi => by omega))
  have hsz := hL.size
  have r0 := hL.new_ 0 _ rfl
  have r1 := hL.new_ 1 _ rfl
  have HS := Lib.hid hsm
  clear hL hsm hA2
  go_wp2
  exact bodyPost_ret (v := .agg #[.slice A2 s.flash.length c2, .slice D2 s.disk.length d2]) (by simp [results, Try.results21, go_sem, r0, r1, q0, q1]) rfl ⟨A2, D2, c2, d2, s, rfl, HS.out, hOf.mono (by omega) (by omega), hBf⟩
set_option maxHeartbeats 2000000 in
theorem spec_DrawStoreOk (A : Option Addr) (bs : List Nat) (c : Nat) (w : World) (hc : Code w A bs c) : Calls Try.prog 28 #[.slice A bs.length c] w (DrawnSt w) := by
  have hq := Row.new w #[.slice none 0 0, .slice none 0 0] 39
  obtain ⟨q0, f0⟩ := hq.at0 (j := 0) rfl
  obtain ⟨q1, f1⟩ := hq.at0 (j := 1) rfl
  have hs0 : (w.alloc (.cells #[.slice none 0 0, .slice none 0 0] 39)).heap.size = w.heap.size + 1 := by simp
  have hB0 : Below w.heap.size w (w.alloc (.cells #[.slice none 0 0, .slice none 0 0] 39)) := by (repeat (first | (with_reducible exact Below.refl _ _) | (with_reducible assumption) | (refine Below.setCell ?_ (by first | omega | exact hB.size | exact hb.size | (have h := hB.size; simp; omega) | (have h := hb.size; simp; omega) | (simp; omega) | simp) _) | (refine Below.alloc ?_ (by first | omega | exact hB.size | exact hb.size | (have h := hB.size; simp; omega) | (have h := hb.size; simp; omega) | (simp; omega) | simp) _) | (refine Below.drew ?_)))
  clear hq
  go_enter Try.func28, Try.ntmps28
  go_wp2_with fail
  refine (spec_l6Open A bs c _ hc.len hc.cap hc.byte (hc.row.alloc _)).mono ?_
  rintro e w1 ⟨rfl, hR1, hb1⟩
  have hs1 := hb1.size
  rw [hs0] at hs1 hb1 hR1
  replace q0 := (hb1.cell (p := ⟨w.heap.size, 0, none⟩) (by show w.heap.size < _; omega)).trans q0
  replace q1 := (hb1.cell (p := ⟨w.heap.size, 1, none⟩) (by show w.heap.size < _; omega)).trans q1
  replace f0 := (hb1.frozen (p := ⟨w.heap.size, 0, none⟩) (by show w.heap.size < _; omega)).trans f0
  replace f1 := (hb1.frozen (p := ⟨w.heap.size, 1, none⟩) (by show w.heap.size < _; omega)).trans f1
  have hB1 := hB0.trans (hb1.mono (by omega))
  have hRl := hR1.lt
  clear hb1 hB0
  go_wp2_with fail
  refine (spec_l71Store _ _ 0 _ (by omega) hR1).mono ?_
  rintro e w2 ⟨A2, D2, c2, d2, s, rfl, hsm, hO, hR2, hA2⟩
  have hs2 := hA2.size
  replace q0 := (hA2.cell (b := w.heap.size) (by omega) (by omega) 0).trans q0
  replace q1 := (hA2.cell (b := w.heap.size) (by omega) (by omega) 1).trans q1
  replace f0 := (hA2.fz (b := w.heap.size) (by omega) (by omega) 0).trans f0
  replace f1 := (hA2.fz (b := w.heap.size) (by omega) (by omega) 1).trans f1
  have hB2 := hB1.trans (hA2.below (B := w.heap.size) (by omega) (fun i hi => by omega))
  have hL := laid_cells q0 q1 (.slice A2 s.flash.length c2) (.slice D2 s.disk.length d2)
  have hOf := hO.agr hL.agr (fun b h1 h2 h3 => by omega)
  have hBf := hB2.trans (hL.agr.below (B := w.heap.size) (by omega) (fun i hi => by omega))
  have hsz := hL.size
  have r0 := hL.new_ 0 _ rfl
  have r1 := hL.new_ 1 _ rfl
  have HS := Lib.hid hsm
  clear hL hsm hA2
  go_wp2
  exact bodyPost_ret (v := .agg #[.slice A2 s.flash.length c2, .slice D2 s.disk.length d2]) (by simp [results, Try.results28, go_sem, r0, r1, q0, q1]) rfl ⟨A2, D2, c2, d2, s, rfl, HS.out, hOf.mono (by omega) (by omega), hBf⟩
/-- a store in a box, and what it holds -/
structure Held (W : World) (bx : Nat) (A D : Option Addr) (n c m d : Nat) (s : St) : Prop where
  fl : Fl W A s.flash
  dk : Row W D (ints s.disk)
  x0 : W.cell? ⟨bx, 0, none⟩ = some (.slice A n c)
  x1 : W.cell? ⟨bx, 1, none⟩ = some (.slice D m d)
  hn : n = s.flash.length
  hm : m = s.disk.length
theorem Held.below {W X : World} {bx n c m d B : Nat} {A D : Option Addr} {s : St} (h : Held W bx A D n c m d s) (hb : Below B W X) (hB : W.heap.size ≤ B) : Held X bx A D n c m d s :=
  ⟨h.fl.below hb hB, h.dk.below hb hB, (hb.cell (p := ⟨bx, 0, none⟩) (Nat.lt_of_lt_of_le (lt_of_cell h.x0) hB)).trans h.x0, (hb.cell (p := ⟨bx, 1, none⟩) (Nat.lt_of_lt_of_le (lt_of_cell h.x1) hB)).trans h.x1, h.hn, h.hm⟩
theorem Held.new (w : World) {A D : Option Addr} {n c m d : Nat} {s : St} (hF : Fl w A s.flash) (hD : Row w D (ints s.disk)) (hn : n = s.flash.length) (hm : m = s.disk.length) : Held (w.alloc (.cells #[.slice A n c, .slice D m d] 39)) w.heap.size A D n c m d s :=
  ⟨hF.below ((Below.refl _ _).alloc (Nat.le_refl _) _) (Nat.le_refl _), hD.alloc _, by simp, by simp, hn, hm⟩
theorem Held.drew {W : World} {bx n c m d : Nat} {A D : Option Addr} {s : St} (h : Held W bx A D n c m d s) : Held W.drew bx A D n c m d s := ⟨h.fl.drew', h.dk, h.x0, h.x1, h.hn, h.hm⟩
theorem small_fl {s : St} (h : stSmall s) : s.flash.length < 1000000000000 := by have := h.1.1; omega
theorem impl_StoreAll' (s : St) (A D : Option Addr) (n m c d : Nat) (w : World) (hn : n = s.flash.length) (hm : m = s.disk.length) (hF : Fl w A s.flash) (hD : Row w D (ints s.disk)) :
    Calls Try.prog 22 #[.agg #[.slice A n c, .slice D m d]] w fun e w' => ∃ A' c', e = .returned (.slice A' (allSp s).length c') ∧ Row w' A' (ints (allSp s)) ∧ Below w.heap.size w w' := by
  refine (impl_StoreAll s A D n m c d w hn hm hF hD).mono ?_
  rintro e w' ⟨hb, ⟨h, g, rfl, _, hR⟩ | ⟨h, rfl⟩⟩
  · have ha : allSp s = allV s := by unfold allSp; rw [if_pos h]
    exact ⟨_, 6, by rw [ha]; rfl, by rw [ha]; exact hR, hb⟩
  · have ha : allSp s = [] := by unfold allSp; rw [if_neg (by rw [h]; simp)]
    exact ⟨none, 0, by rw [ha]; rfl, by rw [ha]; exact Row.nil _ _, hb⟩
theorem spec_StoreAll' (s : St) (A D : Option Addr) (n m c d : Nat) (w : World) (hn : n = s.flash.length) (hm : m = s.disk.length) (hl : s.flash.length < 1000000000000) (hF : Fl w A s.flash) (hD : Row w D (ints s.disk)) :
    Calls Try.prog 24 #[.agg #[.slice A n c, .slice D m d]] w fun e w' => ∃ A' c', e = .returned (.slice A' (allSp s).length c') ∧ Row w' A' (ints (allSp s)) ∧ Below w.heap.size w w' := by
  refine (spec_StoreAll s A D n m c d w hn hm hl hF hD).mono ?_
  rintro e w' ⟨v, rfl, hO, hb⟩
  obtain ⟨A', c', rfl, hR, _, _⟩ := hO.out
  exact ⟨A', c', rfl, hR, hb⟩
theorem impl_StoreDirty' (s : St) (A D : Option Addr) (n m c d : Nat) (w : World) (hn : n = s.flash.length) (hm : m = s.disk.length) (hF : Fl w A s.flash) (hD : Row w D (ints s.disk)) :
    Calls Try.prog 30 #[.agg #[.slice A n c, .slice D m d]] w fun e w' => ∃ A' c', e = .returned (.slice A' (dirtyL s).length c') ∧ Row w' A' (ints (dirtyL s)) ∧ Below w.heap.size w w' := by
  refine (impl_StoreDirty s A D n m c d w hn hm hF hD).mono ?_
  rintro e w' ⟨v, rfl, hO, hb⟩
  obtain ⟨A', c', rfl, hR, _, _⟩ := hO.out
  exact ⟨A', c', rfl, hR, hb⟩
set_option maxHeartbeats 8000000 in
set_option maxRecDepth 100000 in
theorem law_FnReadDisk {w : World} (A : Option Addr) (bs : List Nat) (c : Nat) (hc : Code w A bs c) :
    Calls Try.prog 8 #[.slice A bs.length c] w fun e w' => e = .returned (.bool true) ∧ Below w.heap.size w w' := by
  by_cases hlen : (1048576 : Int) < bs.length
  · go_enter Try.func8, Try.ntmps8
    go_wp2
    go_ret
    exact ⟨rfl, Below.refl _ _⟩
  go_enter Try.func8, Try.ntmps8
  go_wp2_with fail
  refine (spec_DrawStoreAll A bs c _ hc).mono ?_
  rintro e w1 ⟨A1, D1, c1, d1, s, rfl, hsm, hO, hb1⟩
  have hs1 := hb1.size
  have HSM := Lib.hid hsm
  have hH := Held.new w1 (c := c1) (d := d1) hO.ofl.fl hO.disk rfl rfl
  have hB1 : Below w.heap.size w (w1.alloc (.cells #[.slice A1 s.flash.length c1, .slice D1 s.disk.length d1] 39)) := hb1.alloc (by omega) _
  have hs2 : (w1.alloc (.cells #[.slice A1 s.flash.length c1, .slice D1 s.disk.length d1] 39)).heap.size = w1.heap.size + 1 := by simp
  obtain ⟨W, hW⟩ : ∃ W, w1.alloc (.cells #[.slice A1 s.flash.length c1, .slice D1 s.disk.length d1] 39) = W := ⟨_, rfl⟩
  obtain ⟨bx, hbx⟩ : ∃ b, w1.heap.size = b := ⟨_, rfl⟩
  rw [hW] at hH hB1 hs2
  rw [hbx] at hH hs2
  have x0 := hH.x0
  have x1 := hH.x1
  clear hsm hO hb1
  have hB := hB1
  clear hB1
  go_wp2_with fail
  refine (impl_StoreAll' s A1 D1 _ _ c1 d1 _ hH.hn hH.hm hH.fl hH.dk).mono ?_
  rintro e w2 ⟨A2, c2, rfl, hL2, hb⟩
  have hs2 := hb.size
  have hH2 := hH.below hb (Nat.le_refl _)
  have hB2 := hB.trans (hb.mono (by omega))
  replace x0 := hH2.x0
  replace x1 := hH2.x1
  clear hH hB hb
  have hH := hH2
  have hB := hB2
  clear hH2 hB2
  go_wp2_with fail
  refine (spec_StoreAll' s A1 D1 _ _ c1 d1 _ hH.hn hH.hm (small_fl HSM.out) hH.fl hH.dk).mono ?_
  rintro e w3 ⟨A3, c3, rfl, hL3, hb⟩
  have hs3 := hb.size
  have hH3 := hH.below hb (Nat.le_refl _)
  have hB3 := hB.trans (hb.mono (by omega))
  replace x0 := hH3.x0
  replace x1 := hH3.x1
  replace hL2 := hL2.below hb (Nat.le_refl _)
  clear hH hB hb
  have hH := hH3
  have hB := hB3
  clear hH3 hB3
  go_wp2_with fail
  refine (laws_lqInts A2 A3 _ _ c2 c3 (allSp s) (allSp s) _ rfl rfl (by have := allSp_len s; omega) hL2 hL3).mono ?_
  rintro e w4 ⟨rfl, hb⟩
  have hs4 := hb.size
  have hH4 := hH.below hb (Nat.le_refl _)
  have hB4 := hB.trans (hb.mono (by omega))
  replace x0 := hH4.x0
  replace x1 := hH4.x1
  replace hL2 := hL2.below hb (Nat.le_refl _)
  clear hH hB hb
  have hH := hH4
  have hB := hB4
  clear hH4 hB4
  rw [show decide (allSp s = allSp s) = true from decide_eq_true rfl]
  clear hL3
  go_wp2_with fail
  refine (spec_StoreOk s A1 D1 _ _ c1 d1 _ hH.hn hH.hm (small_fl HSM.out) hH.fl hH.dk).mono ?_
  rintro e w5 ⟨rfl, hb⟩
  have hs5 := hb.size
  have hH5 := hH.below hb (Nat.le_refl _)
  have hB5 := hB.trans (hb.mono (by omega))
  replace x0 := hH5.x0
  replace x1 := hH5.x1
  replace hL2 := hL2.below hb (Nat.le_refl _)
  clear hH hB hb
  have hH := hH5
  have hB := hB5
  clear hH5 hB5
  by_cases hok : storeOk s = true
  · have HOK := Lib.hid hok
    have HP := Lib.hid (storeOk_parts hok)
    have hl6 := (storeOk_parts hok).1
    have HAX : Hid (allSp ⟨flashNew, s.disk⟩ = s.disk) := by unfold Hid allSp; rw [if_pos (wiped_store HP.out.1 (diskGo_vals HP.out.2.2)), allV_new HP.out.1]
    have HOX := Lib.hid (wiped_store HP.out.1 (diskGo_vals HP.out.2.2))
    have HDX : Hid (dirtyL ⟨flashNew, s.disk⟩ = []) := dirtyL_new
    rw [hok]
    clear hok hL2
    obtain ⟨db, dO, rfl⟩ := hH.dk.addr (ints_ne' (by intro e; rw [e] at hl6; simp at hl6))
    rw [hl6] at x1 hH
    clear hl6
    go_wp2
    have hbase := Lib.hid (fun X (h : Below w5.drew.heap.size w5.drew X) => hH.drew.below h (Nat.le_refl _))
    have hb0 : Below w5.drew.heap.size w5.drew w5.drew := Below.refl _ _
    have hd5 : w5.drew.heap.size = w5.heap.size := rfl
    refine wp_region_held_drew (S := fun X => X.cell? ⟨bx, 1, none⟩ = some (.slice (some ⟨db, dO, none⟩) 6 d1)) (by kernel_rfl) (hbase.out _ hb0).x1 (fun hHeld0 => ?_)
    refine wpAnyH_take (i := 1) (v := ?vp1) rfl (by kernel_rfl) (by kernel_rfl) (by kernel_rfl) (fun _ _ _ h => h) (Or.inl ⟨by kernel_rfl, ?yp1⟩) hHeld0 ?rp1
    case yp1 => (intro w' hS; (try dsimp only at hS); obtain s0 := hS; (try go_simp); (try with_reducible rfl))
    try simp only [Act.put, List.getElem_toArray, List.getElem_cons_zero, List.getElem_cons_succ, List.setIfInBounds_toArray, List.set_cons_zero, List.set_cons_succ]
    refine wpAnyH_take (i := 2) (v := ?vp2) rfl (by kernel_rfl) (by kernel_rfl) (by kernel_rfl) (fun _ _ _ h => h) (Or.inl ⟨by kernel_rfl, ?yp2⟩) hHeld0 ?rp2
    case yp2 => (intro w' hS; (try dsimp only at hS); obtain s0 := hS; (try go_simp); (try with_reducible rfl))
    try simp only [Act.put, List.getElem_toArray, List.getElem_cons_zero, List.getElem_cons_succ, List.setIfInBounds_toArray, List.set_cons_zero, List.set_cons_succ]
    refine wpAnyH_ready (rs := [0, 4]) (by kernel_rfl) (by simp) ?_
    refine AllReadyH.cons rfl (fun K hK => ?_) (AllReadyH.cons rfl (fun K hK => ?_) AllReadyH.nil)
    · go_simp
      refine (impl_FlashNew _).mono ?_
      rintro e w6 ⟨g, rfl, hOg, hb⟩
      have hb6 := hb0.trans (hb.mono hb0.size)
      go_wp2_with fail
      refine hK.out _ _ ((hbase.out _ hb6).x1) (fun hHp1 => ?_)
      clear hK K
      try simp only [Act.put, List.getElem_toArray, List.getElem_cons_zero, List.getElem_cons_succ, List.setIfInBounds_toArray, List.set_cons_zero, List.set_cons_succ]
      refine wpAnyH_take (i := 3) (v := ?vp3) rfl (by kernel_rfl) (by kernel_rfl) (by kernel_rfl) (fun _ _ _ h => h) (Or.inl ⟨by kernel_rfl, ?yp3⟩) hHp1 ?rp3
      case yp3 => (intro w' hS; (try dsimp only at hS); obtain s0 := hS; (try go_simp); (try with_reducible rfl))
      try simp only [Act.put, List.getElem_toArray, List.getElem_cons_zero, List.getElem_cons_succ, List.setIfInBounds_toArray, List.set_cons_zero, List.set_cons_succ]
      refine wpAnyH_ready (rs := [4]) (by kernel_rfl) (by simp) ?_
      refine AllReadyH.cons rfl (fun K hK => ?_) AllReadyH.nil
      go_simp
      obtain ⟨bz, hbz⟩ : ∃ b, w6.heap.size = b := ⟨_, rfl⟩
      have hbz' : w6.heap.size = bz := hbz
      have hq := Row.new w6 #[.slice none 0 0, .slice none 0 0] 39
      have hb4 := hb6.alloc hb6.size (.cells #[.slice none 0 0, .slice none 0 0] 39)
      rw [hbz'] at hq
      (try simp only [hbz])
      obtain ⟨z0, z2⟩ := hq.at0 (j := 0) rfl
      obtain ⟨z1, z3⟩ := hq.at0 (j := 1) rfl
      have hzs : (w6.alloc (.cells #[.slice none 0 0, .slice none 0 0] 39)).heap.size = bz + 1 := by rw [← hbz']; simp
      refine hK.out _ _ ((hbase.out _ hb4).x1) (fun hHp2 => ?_)
      clear hK K
      try simp only [Act.put, List.getElem_toArray, List.getElem_cons_zero, List.getElem_cons_succ, List.setIfInBounds_toArray, List.set_cons_zero, List.set_cons_succ]
      refine wpAnyH_ready (rs := [5]) (by kernel_rfl) (by simp) ?_
      refine AllReadyH.cons rfl (fun K hK => ?_) AllReadyH.nil
      go_simp
      have hb8 := hb6.alloc hb6.size (.cells #[.slice (some ⟨g, 0, none⟩) 4 4, .slice (some ⟨db, dO, none⟩) 6 d1] 39)
      have hq8 := Row.new w6 #[.slice (some ⟨g, 0, none⟩) 4 4, .slice (some ⟨db, dO, none⟩) 6 d1] 39
      rw [hbz] at hq8
      obtain ⟨r0, _⟩ := hq8.at0 (j := 0) rfl
      obtain ⟨r1, _⟩ := hq8.at0 (j := 1) rfl
      have hF6 := (hOg.alloc (.cells #[.slice (some ⟨g, 0, none⟩) 4 4, .slice (some ⟨db, dO, none⟩) 6 d1] 39)).fl
      refine hK.out _ _ ((hbase.out _ hb8).x1) (fun hHp3 => ?_)
      clear hK K
      try simp only [Act.put, List.getElem_toArray, List.getElem_cons_zero, List.getElem_cons_succ, List.setIfInBounds_toArray, List.set_cons_zero, List.set_cons_succ]
      refine wpAnyH_done (by kernel_rfl) ?_ _
      have hH8 := hbase.out _ hb8
      have hHx : Held (w6.alloc (.cells #[.slice (some ⟨g, 0, none⟩) 4 4, .slice (some ⟨db, dO, none⟩) 6 d1] 39)) bz (some ⟨g, 0, none⟩) (some ⟨db, dO, none⟩) 4 4 6 d1 ⟨flashNew, s.disk⟩ := ⟨hF6, hH8.dk, r0, r1, rfl, HP.out.1.symm⟩
      have hB8 := hB.drew.trans (hb8.mono (by have h := hB.size; exact h))
      obtain ⟨V, hV⟩ : ∃ V, (w6.alloc (.cells #[.slice (some ⟨g, 0, none⟩) 4 4, .slice (some ⟨db, dO, none⟩) 6 d1] 39)) = V := ⟨_, rfl⟩
      rw [hV] at hH8 hHx hB8
      (try rw [hV])
      clear hV hbase hb0 hb8 hb6 r0 r1 hF6 hOg
      go_wp2
      have hx := Lib.hid (fun X (h : Below V.drew.heap.size V.drew X) => hHx.drew.below h (Nat.le_refl _))
      have ho := Lib.hid (fun X (h : Below V.drew.heap.size V.drew X) => hH8.drew.below h (Nat.le_refl _))
      have C1 := Lib.hid (fun X (h : Below V.drew.heap.size V.drew X) => (impl_StoreOk ⟨flashNew, s.disk⟩ _ _ 4 6 4 d1 X (hx.out X h).hn (hx.out X h).hm (hx.out X h).fl (hx.out X h).dk).mono (fun e w' (q : e = .returned (.bool (storeOk ⟨flashNew, s.disk⟩)) ∧ Below X.heap.size X w') => (show e = .returned (.bool true) ∧ Below X.heap.size X w' from by rw [HOX.out] at q; exact q)))
      have C4 := Lib.hid (fun X (h : Below V.drew.heap.size V.drew X) => (impl_StoreAll' ⟨flashNew, s.disk⟩ _ _ 4 6 4 d1 X (hx.out X h).hn (hx.out X h).hm (hx.out X h).fl (hx.out X h).dk).mono (fun e w' (q : ∃ A' c', e = .returned (.slice A' (allSp ⟨flashNew, s.disk⟩).length c') ∧ Row w' A' (ints (allSp ⟨flashNew, s.disk⟩)) ∧ Below X.heap.size X w') => (show ∃ A' c', e = .returned (.slice A' 6 c') ∧ Row w' A' (ints s.disk) ∧ Below X.heap.size X w' from by rw [HAX.out, HP.out.1] at q; exact q)))
      have C11 := Lib.hid (fun X (h : Below V.drew.heap.size V.drew X) => (impl_StoreDirty' ⟨flashNew, s.disk⟩ _ _ 4 6 4 d1 X (hx.out X h).hn (hx.out X h).hm (hx.out X h).fl (hx.out X h).dk).mono (fun e w' (q : ∃ A' c', e = .returned (.slice A' (dirtyL ⟨flashNew, s.disk⟩).length c') ∧ Row w' A' (ints (dirtyL ⟨flashNew, s.disk⟩)) ∧ Below X.heap.size X w') => (show ∃ A' c', e = .returned (.slice A' 0 c') ∧ Below X.heap.size X w' from by rw [HDX.out] at q; obtain ⟨a, b, q1, _, q2⟩ := q; exact ⟨a, b, q1, q2⟩)))
      have hv0 : Below V.drew.heap.size V.drew V.drew := Below.refl _ _
      have hvd : Below w.heap.size w V.drew := hB8.drew
      refine wp_region_held_drew (S := fun X => X.cell? ⟨bz, 0, none⟩ = some (.slice (some ⟨g, 0, none⟩) 4 4) ∧ X.cell? ⟨bz, 1, none⟩ = some (.slice (some ⟨db, dO, none⟩) 6 d1) ∧ X.cell? ⟨bx, 1, none⟩ = some (.slice (some ⟨db, dO, none⟩) 6 d1)) (by kernel_rfl) ⟨(hx.out _ hv0).x0, (hx.out _ hv0).x1, (ho.out _ hv0).x1⟩ (fun hHeld0 => ?_)
      refine wpAnyH_take (i := 0) (v := ?vqa1) rfl (by kernel_rfl) (by kernel_rfl) (by kernel_rfl) (fun _ _ _ h => h) (Or.inl ⟨by kernel_rfl, ?yqa1⟩) hHeld0 ?rqa1
      case yqa1 => (intro w' hS; (try dsimp only at hS); obtain ⟨s0, s1, s2⟩ := hS; (try go_simp); (try with_reducible rfl))
      try simp only [Act.put, List.getElem_toArray, List.getElem_cons_zero, List.getElem_cons_succ, List.setIfInBounds_toArray, List.set_cons_zero, List.set_cons_succ]
      refine wpAnyH_ready (rs := [1]) (by kernel_rfl) (by simp) ?_
      refine AllReadyH.cons rfl (fun K hK => ?_) AllReadyH.nil
      go_simp
      refine (C1.out _ hv0).mono ?_
      rintro e u1 ⟨rfl, hc⟩
      have hv1 := hv0.trans (hc.mono hv0.size)
      clear hc
      go_wp2_with fail
      refine hK.out _ _ (⟨(hx.out _ hv1).x0, (hx.out _ hv1).x1, (ho.out _ hv1).x1⟩) (fun hHqa1 => ?_)
      clear hK K
      try simp only [Act.put, List.getElem_toArray, List.getElem_cons_zero, List.getElem_cons_succ, List.setIfInBounds_toArray, List.set_cons_zero, List.set_cons_succ]
      refine wpAnyH_take (i := 2) (v := ?vqa2) rfl (by kernel_rfl) (by kernel_rfl) (by kernel_rfl) (fun _ _ _ h => h) (Or.inl ⟨by kernel_rfl, ?yqa2⟩) hHqa1 ?rqa2
      case yqa2 => (intro w' hS; (try dsimp only at hS); obtain ⟨s0, s1, s2⟩ := hS; (try go_simp); (try with_reducible rfl))
      try simp only [Act.put, List.getElem_toArray, List.getElem_cons_zero, List.getElem_cons_succ, List.setIfInBounds_toArray, List.set_cons_zero, List.set_cons_succ]
      refine wpAnyH_take (i := 3) (v := ?vqa3) rfl (by kernel_rfl) (by kernel_rfl) (by kernel_rfl) (fun _ _ _ h => h) (Or.inl ⟨by kernel_rfl, ?yqa3⟩) hHqa1 ?rqa3
      case yqa3 => (intro w' hS; (try dsimp only at hS); obtain ⟨s0, s1, s2⟩ := hS; (try go_simp); (try with_reducible rfl))
      try simp only [Act.put, List.getElem_toArray, List.getElem_cons_zero, List.getElem_cons_succ, List.setIfInBounds_toArray, List.set_cons_zero, List.set_cons_succ]
      refine wpAnyH_take (i := 5) (v := ?vqa4) rfl (by kernel_rfl) (by kernel_rfl) (by kernel_rfl) (fun _ _ _ h => h) (Or.inl ⟨by kernel_rfl, ?yqa4⟩) hHqa1 ?rqa4
      case yqa4 => (intro w' hS; (try dsimp only at hS); obtain ⟨s0, s1, s2⟩ := hS; (try go_simp); (try with_reducible rfl))
      try simp only [Act.put, List.getElem_toArray, List.getElem_cons_zero, List.getElem_cons_succ, List.setIfInBounds_toArray, List.set_cons_zero, List.set_cons_succ]
      refine wpAnyH_take (i := 6) (v := ?vqa5) rfl (by kernel_rfl) (by kernel_rfl) (by kernel_rfl) (fun _ _ _ h => h) (Or.inl ⟨by kernel_rfl, ?yqa5⟩) hHqa1 ?rqa5
      case yqa5 => (intro w' hS; (try dsimp only at hS); obtain ⟨s0, s1, s2⟩ := hS; (try go_simp); (try with_reducible rfl))
      try simp only [Act.put, List.getElem_toArray, List.getElem_cons_zero, List.getElem_cons_succ, List.setIfInBounds_toArray, List.set_cons_zero, List.set_cons_succ]
      refine wpAnyH_ready (rs := [4]) (by kernel_rfl) (by simp) ?_
      refine AllReadyH.cons rfl (fun K hK => ?_) AllReadyH.nil
      go_simp
      refine (C4.out _ hv1).mono ?_
      rintro e u2 ⟨A8, c8, rfl, hL8, hc⟩
      have hv2 := hv1.trans (hc.mono hv1.size)
      clear hc
      go_wp2_with fail
      refine hK.out _ _ (⟨(hx.out _ hv2).x0, (hx.out _ hv2).x1, (ho.out _ hv2).x1⟩) (fun hHqa2 => ?_)
      clear hK K
      try simp only [Act.put, List.getElem_toArray, List.getElem_cons_zero, List.getElem_cons_succ, List.setIfInBounds_toArray, List.set_cons_zero, List.set_cons_succ]
      refine wpAnyH_ready (rs := [7]) (by kernel_rfl) (by simp) ?_
      refine AllReadyH.cons rfl (fun K hK => ?_) AllReadyH.nil
      go_simp
      refine (laws_lqInts A8 _ 6 6 c8 d1 s.disk s.disk _ HP.out.1.symm HP.out.1.symm (by rw [HP.out.1]; omega) hL8 (ho.out _ hv2).dk).mono ?_
      rintro e u3 ⟨e1, hc⟩
      have hv3 := hv2.trans (hc.mono hv2.size)
      rw [decide_eq_true (rfl : s.disk = s.disk)] at e1
      subst e1
      clear hc
      go_wp2_with fail
      refine hK.out _ _ (⟨(hx.out _ hv3).x0, (hx.out _ hv3).x1, (ho.out _ hv3).x1⟩) (fun hHqa3 => ?_)
      clear hK K
      try simp only [Act.put, List.getElem_toArray, List.getElem_cons_zero, List.getElem_cons_succ, List.setIfInBounds_toArray, List.set_cons_zero, List.set_cons_succ]
      refine wpAnyH_take (i := 8) (v := ?vqa6) rfl (by kernel_rfl) (by kernel_rfl) (by kernel_rfl) (fun _ _ _ h => h) (Or.inl ⟨by kernel_rfl, ?yqa6⟩) hHqa3 ?rqa6
      case yqa6 => (intro w' hS; (try dsimp only at hS); obtain ⟨s0, s1, s2⟩ := hS; (try go_simp); (try with_reducible rfl))
      try simp only [Act.put, List.getElem_toArray, List.getElem_cons_zero, List.getElem_cons_succ, List.setIfInBounds_toArray, List.set_cons_zero, List.set_cons_succ]
      refine wpAnyH_take (i := 9) (v := ?vqa7) rfl (by kernel_rfl) (by kernel_rfl) (by kernel_rfl) (fun _ _ _ h => h) (Or.inl ⟨by kernel_rfl, ?yqa7⟩) hHqa3 ?rqa7
      case yqa7 => (intro w' hS; (try dsimp only at hS); obtain ⟨s0, s1, s2⟩ := hS; (try go_simp); (try with_reducible rfl))
      try simp only [Act.put, List.getElem_toArray, List.getElem_cons_zero, List.getElem_cons_succ, List.setIfInBounds_toArray, List.set_cons_zero, List.set_cons_succ]
      refine wpAnyH_take (i := 10) (v := ?vqa8) rfl (by kernel_rfl) (by kernel_rfl) (by kernel_rfl) (fun _ _ _ h => h) (Or.inl ⟨by kernel_rfl, ?yqa8⟩) hHqa3 ?rqa8
      case yqa8 => (intro w' hS; (try dsimp only at hS); obtain ⟨s0, s1, s2⟩ := hS; (try go_simp); (try with_reducible rfl))
      try simp only [Act.put, List.getElem_toArray, List.getElem_cons_zero, List.getElem_cons_succ, List.setIfInBounds_toArray, List.set_cons_zero, List.set_cons_succ]
      refine wpAnyH_ready (rs := [11]) (by kernel_rfl) (by simp) ?_
      refine AllReadyH.cons rfl (fun K hK => ?_) AllReadyH.nil
      go_simp
      refine (C11.out _ hv3).mono ?_
      rintro e u4 ⟨A9, c9, rfl, hc⟩
      have hv4 := hv3.trans (hc.mono hv3.size)
      clear hc
      go_wp2_with fail
      refine hK.out _ _ (⟨(hx.out _ hv4).x0, (hx.out _ hv4).x1, (ho.out _ hv4).x1⟩) (fun hHqa4 => ?_)
      clear hK K
      try simp only [Act.put, List.getElem_toArray, List.getElem_cons_zero, List.getElem_cons_succ, List.setIfInBounds_toArray, List.set_cons_zero, List.set_cons_succ]
      refine wpAnyH_take (i := 12) (v := ?vqa9) rfl (by kernel_rfl) (by kernel_rfl) (by kernel_rfl) (fun _ _ _ h => h) (Or.inl ⟨by kernel_rfl, ?yqa9⟩) hHqa4 ?rqa9
      case yqa9 => (intro w' hS; (try dsimp only at hS); obtain ⟨s0, s1, s2⟩ := hS; (try go_simp); (try with_reducible rfl))
      try simp only [Act.put, List.getElem_toArray, List.getElem_cons_zero, List.getElem_cons_succ, List.setIfInBounds_toArray, List.set_cons_zero, List.set_cons_succ]
      refine wpAnyH_take (i := 13) (v := ?vqa10) rfl (by kernel_rfl) (by kernel_rfl) (by kernel_rfl) (fun _ _ _ h => h) (Or.inl ⟨by kernel_rfl, ?yqa10⟩) hHqa4 ?rqa10
      case yqa10 => (intro w' hS; (try dsimp only at hS); obtain ⟨s0, s1, s2⟩ := hS; (try go_simp); (try with_reducible rfl))
      try simp only [Act.put, List.getElem_toArray, List.getElem_cons_zero, List.getElem_cons_succ, List.setIfInBounds_toArray, List.set_cons_zero, List.set_cons_succ]
      refine wpAnyH_take (i := 14) (v := ?vqa11) rfl (by kernel_rfl) (by kernel_rfl) (by kernel_rfl) (fun _ _ _ h => h) (Or.inl ⟨by kernel_rfl, ?yqa11⟩) hHqa4 ?rqa11
      case yqa11 => (intro w' hS; (try dsimp only at hS); obtain ⟨s0, s1, s2⟩ := hS; (try go_simp); (try with_reducible rfl))
      try simp only [Act.put, List.getElem_toArray, List.getElem_cons_zero, List.getElem_cons_succ, List.setIfInBounds_toArray, List.set_cons_zero, List.set_cons_succ]
      refine wpAnyH_take (i := 15) (v := ?vqa12) rfl (by kernel_rfl) (by kernel_rfl) (by kernel_rfl) (fun _ _ _ h => h) (Or.inl ⟨by kernel_rfl, ?yqa12⟩) hHqa4 ?rqa12
      case yqa12 => (intro w' hS; (try dsimp only at hS); obtain ⟨s0, s1, s2⟩ := hS; (try go_simp); (try with_reducible rfl))
      try simp only [Act.put, List.getElem_toArray, List.getElem_cons_zero, List.getElem_cons_succ, List.setIfInBounds_toArray, List.set_cons_zero, List.set_cons_succ]
      refine wpAnyH_done (by kernel_rfl) ?_ _
      have hBf := hvd.trans (hv4.mono (by have := hvd.size; omega))
      go_wp2
      go_ret
      exact ⟨rfl, hBf⟩
    · go_simp
      obtain ⟨bz, hbz⟩ : ∃ b, w5.heap.size = b := ⟨_, rfl⟩
      have hbz' : w5.drew.heap.size = bz := hbz
      have hq := Row.new w5.drew #[.slice none 0 0, .slice none 0 0] 39
      have hb4 := hb0.alloc hb0.size (.cells #[.slice none 0 0, .slice none 0 0] 39)
      rw [hbz'] at hq
      (try simp only [hbz])
      obtain ⟨z0, z2⟩ := hq.at0 (j := 0) rfl
      obtain ⟨z1, z3⟩ := hq.at0 (j := 1) rfl
      have hzs : (w5.drew.alloc (.cells #[.slice none 0 0, .slice none 0 0] 39)).heap.size = bz + 1 := by rw [← hbz']; simp
      have hzs2 : (w5.alloc (.cells #[.slice none 0 0, .slice none 0 0] 39)).drew.heap.size = bz + 1 := hzs
      refine hK.out _ _ ((hbase.out _ hb4).x1) (fun hHp4 => ?_)
      clear hK K
      try simp only [Act.put, List.getElem_toArray, List.getElem_cons_zero, List.getElem_cons_succ, List.setIfInBounds_toArray, List.set_cons_zero, List.set_cons_succ]
      refine wpAnyH_ready (rs := [0]) (by kernel_rfl) (by simp) ?_
      refine AllReadyH.cons rfl (fun K hK => ?_) AllReadyH.nil
      go_simp
      refine (impl_FlashNew _).mono ?_
      rintro e w6 ⟨g, rfl, hOg, hb⟩
      have hb6 := hb4.trans (hb.mono hb4.size)
      have hz := hb.size
      have y0 := (hb.cell (p := ⟨bz, 0, none⟩) (by show bz < _; omega)).trans z0
      have y1 := (hb.cell (p := ⟨bz, 1, none⟩) (by show bz < _; omega)).trans z1
      have y2 := (hb.frozen (p := ⟨bz, 0, none⟩) (by show bz < _; omega)).trans z2
      have y3 := (hb.frozen (p := ⟨bz, 1, none⟩) (by show bz < _; omega)).trans z3
      go_wp2_with fail
      refine hK.out _ _ ((hbase.out _ hb6).x1) (fun hHp5 => ?_)
      clear hK K
      try simp only [Act.put, List.getElem_toArray, List.getElem_cons_zero, List.getElem_cons_succ, List.setIfInBounds_toArray, List.set_cons_zero, List.set_cons_succ]
      refine wpAnyH_take (i := 3) (v := ?vp4) rfl (by kernel_rfl) (by kernel_rfl) (by kernel_rfl) (fun _ _ _ h => h) (Or.inl ⟨by kernel_rfl, ?yp4⟩) hHp5 ?rp4
      case yp4 => (intro w' hS; (try dsimp only at hS); obtain s0 := hS; (try go_simp); (try with_reducible rfl))
      try simp only [Act.put, List.getElem_toArray, List.getElem_cons_zero, List.getElem_cons_succ, List.setIfInBounds_toArray, List.set_cons_zero, List.set_cons_succ]
      refine wpAnyH_ready (rs := [5]) (by kernel_rfl) (by simp) ?_
      refine AllReadyH.cons rfl (fun K hK => ?_) AllReadyH.nil
      go_simp
      have hWs := laid_cells y0 y1 (.slice (some ⟨g, 0, none⟩) 4 4) (.slice (some ⟨db, dO, none⟩) 6 d1)
      have hsz0 := hb6.size
      have hb8 := hb6.trans (hWs.agr.below (B := w5.drew.heap.size) hsz0 (fun i hi => by omega))
      have r0 := hWs.new_ 0 _ rfl
      have r1 := hWs.new_ 1 _ rfl
      rw [Nat.add_zero] at r0
      have hF6 := (hOg.agr hWs.agr (fun b h1 h2 h3 => by omega)).fl
      refine hK.out _ _ ((hbase.out _ hb8).x1) (fun hHp6 => ?_)
      clear hK K
      try simp only [Act.put, List.getElem_toArray, List.getElem_cons_zero, List.getElem_cons_succ, List.setIfInBounds_toArray, List.set_cons_zero, List.set_cons_succ]
      refine wpAnyH_done (by kernel_rfl) ?_ _
      have hH8 := hbase.out _ hb8
      have hHx : Held ((w6.setCell ⟨bz, 0, none⟩ (.slice (some ⟨g, 0, none⟩) 4 4)).setCell ⟨bz, 1, none⟩ (.slice (some ⟨db, dO, none⟩) 6 d1)) bz (some ⟨g, 0, none⟩) (some ⟨db, dO, none⟩) 4 4 6 d1 ⟨flashNew, s.disk⟩ := ⟨hF6, hH8.dk, r0, r1, rfl, HP.out.1.symm⟩
      have hB8 := hB.drew.trans (hb8.mono (by have h := hB.size; exact h))
      obtain ⟨V, hV⟩ : ∃ V, ((w6.setCell ⟨bz, 0, none⟩ (.slice (some ⟨g, 0, none⟩) 4 4)).setCell ⟨bz, 1, none⟩ (.slice (some ⟨db, dO, none⟩) 6 d1)) = V := ⟨_, rfl⟩
      rw [hV] at hH8 hHx hB8
      (try rw [hV])
      clear hV hbase hb0 hb8 hb6 r0 r1 hF6 hOg
      go_wp2
      have hx := Lib.hid (fun X (h : Below V.drew.heap.size V.drew X) => hHx.drew.below h (Nat.le_refl _))
      have ho := Lib.hid (fun X (h : Below V.drew.heap.size V.drew X) => hH8.drew.below h (Nat.le_refl _))
      have C1 := Lib.hid (fun X (h : Below V.drew.heap.size V.drew X) => (impl_StoreOk ⟨flashNew, s.disk⟩ _ _ 4 6 4 d1 X (hx.out X h).hn (hx.out X h).hm (hx.out X h).fl (hx.out X h).dk).mono (fun e w' (q : e = .returned (.bool (storeOk ⟨flashNew, s.disk⟩)) ∧ Below X.heap.size X w') => (show e = .returned (.bool true) ∧ Below X.heap.size X w' from by rw [HOX.out] at q; exact q)))
      have C4 := Lib.hid (fun X (h : Below V.drew.heap.size V.drew X) => (impl_StoreAll' ⟨flashNew, s.disk⟩ _ _ 4 6 4 d1 X (hx.out X h).hn (hx.out X h).hm (hx.out X h).fl (hx.out X h).dk).mono (fun e w' (q : ∃ A' c', e = .returned (.slice A' (allSp ⟨flashNew, s.disk⟩).length c') ∧ Row w' A' (ints (allSp ⟨flashNew, s.disk⟩)) ∧ Below X.heap.size X w') => (show ∃ A' c', e = .returned (.slice A' 6 c') ∧ Row w' A' (ints s.disk) ∧ Below X.heap.size X w' from by rw [HAX.out, HP.out.1] at q; exact q)))
      have C11 := Lib.hid (fun X (h : Below V.drew.heap.size V.drew X) => (impl_StoreDirty' ⟨flashNew, s.disk⟩ _ _ 4 6 4 d1 X (hx.out X h).hn (hx.out X h).hm (hx.out X h).fl (hx.out X h).dk).mono (fun e w' (q : ∃ A' c', e = .returned (.slice A' (dirtyL ⟨flashNew, s.disk⟩).length c') ∧ Row w' A' (ints (dirtyL ⟨flashNew, s.disk⟩)) ∧ Below X.heap.size X w') => (show ∃ A' c', e = .returned (.slice A' 0 c') ∧ Below X.heap.size X w' from by rw [HDX.out] at q; obtain ⟨a, b, q1, _, q2⟩ := q; exact ⟨a, b, q1, q2⟩)))
      have hv0 : Below V.drew.heap.size V.drew V.drew := Below.refl _ _
      have hvd : Below w.heap.size w V.drew := hB8.drew
      refine wp_region_held_drew (S := fun X => X.cell? ⟨bz, 0, none⟩ = some (.slice (some ⟨g, 0, none⟩) 4 4) ∧ X.cell? ⟨bz, 1, none⟩ = some (.slice (some ⟨db, dO, none⟩) 6 d1) ∧ X.cell? ⟨bx, 1, none⟩ = some (.slice (some ⟨db, dO, none⟩) 6 d1)) (by kernel_rfl) ⟨(hx.out _ hv0).x0, (hx.out _ hv0).x1, (ho.out _ hv0).x1⟩ (fun hHeld0 => ?_)
      refine wpAnyH_take (i := 0) (v := ?vqb1) rfl (by kernel_rfl) (by kernel_rfl) (by kernel_rfl) (fun _ _ _ h => h) (Or.inl ⟨by kernel_rfl, ?yqb1⟩) hHeld0 ?rqb1
      case yqb1 => (intro w' hS; (try dsimp only at hS); obtain ⟨s0, s1, s2⟩ := hS; (try go_simp); (try with_reducible rfl))
      try simp only [Act.put, List.getElem_toArray, List.getElem_cons_zero, List.getElem_cons_succ, List.setIfInBounds_toArray, List.set_cons_zero, List.set_cons_succ]
      refine wpAnyH_ready (rs := [1]) (by kernel_rfl) (by simp) ?_
      refine AllReadyH.cons rfl (fun K hK => ?_) AllReadyH.nil
      go_simp
      refine (C1.out _ hv0).mono ?_
      rintro e u1 ⟨rfl, hc⟩
      have hv1 := hv0.trans (hc.mono hv0.size)
      clear hc
      go_wp2_with fail
      refine hK.out _ _ (⟨(hx.out _ hv1).x0, (hx.out _ hv1).x1, (ho.out _ hv1).x1⟩) (fun hHqb1 => ?_)
      clear hK K
      try simp only [Act.put, List.getElem_toArray, List.getElem_cons_zero, List.getElem_cons_succ, List.setIfInBounds_toArray, List.set_cons_zero, List.set_cons_succ]
      refine wpAnyH_take (i := 2) (v := ?vqb2) rfl (by kernel_rfl) (by kernel_rfl) (by kernel_rfl) (fun _ _ _ h => h) (Or.inl ⟨by kernel_rfl, ?yqb2⟩) hHqb1 ?rqb2
      case yqb2 => (intro w' hS; (try dsimp only at hS); obtain ⟨s0, s1, s2⟩ := hS; (try go_simp); (try with_reducible rfl))
      try simp only [Act.put, List.getElem_toArray, List.getElem_cons_zero, List.getElem_cons_succ, List.setIfInBounds_toArray, List.set_cons_zero, List.set_cons_succ]
      refine wpAnyH_take (i := 3) (v := ?vqb3) rfl (by kernel_rfl) (by kernel_rfl) (by kernel_rfl) (fun _ _ _ h => h) (Or.inl ⟨by kernel_rfl, ?yqb3⟩) hHqb1 ?rqb3
      case yqb3 => (intro w' hS; (try dsimp only at hS); obtain ⟨s0, s1, s2⟩ := hS; (try go_simp); (try with_reducible rfl))
      try simp only [Act.put, List.getElem_toArray, List.getElem_cons_zero, List.getElem_cons_succ, List.setIfInBounds_toArray, List.set_cons_zero, List.set_cons_succ]
      refine wpAnyH_take (i := 5) (v := ?vqb4) rfl (by kernel_rfl) (by kernel_rfl) (by kernel_rfl) (fun _ _ _ h => h) (Or.inl ⟨by kernel_rfl, ?yqb4⟩) hHqb1 ?rqb4
      case yqb4 => (intro w' hS; (try dsimp only at hS); obtain ⟨s0, s1, s2⟩ := hS; (try go_simp); (try with_reducible rfl))
      try simp only [Act.put, List.getElem_toArray, List.getElem_cons_zero, List.getElem_cons_succ, List.setIfInBounds_toArray, List.set_cons_zero, List.set_cons_succ]
      refine wpAnyH_take (i := 6) (v := ?vqb5) rfl (by kernel_rfl) (by kernel_rfl) (by kernel_rfl) (fun _ _ _ h => h) (Or.inl ⟨by kernel_rfl, ?yqb5⟩) hHqb1 ?rqb5
      case yqb5 => (intro w' hS; (try dsimp only at hS); obtain ⟨s0, s1, s2⟩ := hS; (try go_simp); (try with_reducible rfl))
      try simp only [Act.put, List.getElem_toArray, List.getElem_cons_zero, List.getElem_cons_succ, List.setIfInBounds_toArray, List.set_cons_zero, List.set_cons_succ]
      refine wpAnyH_ready (rs := [4]) (by kernel_rfl) (by simp) ?_
      refine AllReadyH.cons rfl (fun K hK => ?_) AllReadyH.nil
      go_simp
      refine (C4.out _ hv1).mono ?_
      rintro e u2 ⟨A8, c8, rfl, hL8, hc⟩
      have hv2 := hv1.trans (hc.mono hv1.size)
      clear hc
      go_wp2_with fail
      refine hK.out _ _ (⟨(hx.out _ hv2).x0, (hx.out _ hv2).x1, (ho.out _ hv2).x1⟩) (fun hHqb2 => ?_)
      clear hK K
      try simp only [Act.put, List.getElem_toArray, List.getElem_cons_zero, List.getElem_cons_succ, List.setIfInBounds_toArray, List.set_cons_zero, List.set_cons_succ]
      refine wpAnyH_ready (rs := [7]) (by kernel_rfl) (by simp) ?_
      refine AllReadyH.cons rfl (fun K hK => ?_) AllReadyH.nil
      go_simp
      refine (laws_lqInts A8 _ 6 6 c8 d1 s.disk s.disk _ HP.out.1.symm HP.out.1.symm (by rw [HP.out.1]; omega) hL8 (ho.out _ hv2).dk).mono ?_
      rintro e u3 ⟨e1, hc⟩
      have hv3 := hv2.trans (hc.mono hv2.size)
      rw [decide_eq_true (rfl : s.disk = s.disk)] at e1
      subst e1
      clear hc
      go_wp2_with fail
      refine hK.out _ _ (⟨(hx.out _ hv3).x0, (hx.out _ hv3).x1, (ho.out _ hv3).x1⟩) (fun hHqb3 => ?_)
      clear hK K
      try simp only [Act.put, List.getElem_toArray, List.getElem_cons_zero, List.getElem_cons_succ, List.setIfInBounds_toArray, List.set_cons_zero, List.set_cons_succ]
      refine wpAnyH_take (i := 8) (v := ?vqb6) rfl (by kernel_rfl) (by kernel_rfl) (by kernel_rfl) (fun _ _ _ h => h) (Or.inl ⟨by kernel_rfl, ?yqb6⟩) hHqb3 ?rqb6
      case yqb6 => (intro w' hS; (try dsimp only at hS); obtain ⟨s0, s1, s2⟩ := hS; (try go_simp); (try with_reducible rfl))
      try simp only [Act.put, List.getElem_toArray, List.getElem_cons_zero, List.getElem_cons_succ, List.setIfInBounds_toArray, List.set_cons_zero, List.set_cons_succ]
      refine wpAnyH_take (i := 9) (v := ?vqb7) rfl (by kernel_rfl) (by kernel_rfl) (by kernel_rfl) (fun _ _ _ h => h) (Or.inl ⟨by kernel_rfl, ?yqb7⟩) hHqb3 ?rqb7
      case yqb7 => (intro w' hS; (try dsimp only at hS); obtain ⟨s0, s1, s2⟩ := hS; (try go_simp); (try with_reducible rfl))
      try simp only [Act.put, List.getElem_toArray, List.getElem_cons_zero, List.getElem_cons_succ, List.setIfInBounds_toArray, List.set_cons_zero, List.set_cons_succ]
      refine wpAnyH_take (i := 10) (v := ?vqb8) rfl (by kernel_rfl) (by kernel_rfl) (by kernel_rfl) (fun _ _ _ h => h) (Or.inl ⟨by kernel_rfl, ?yqb8⟩) hHqb3 ?rqb8
      case yqb8 => (intro w' hS; (try dsimp only at hS); obtain ⟨s0, s1, s2⟩ := hS; (try go_simp); (try with_reducible rfl))
      try simp only [Act.put, List.getElem_toArray, List.getElem_cons_zero, List.getElem_cons_succ, List.setIfInBounds_toArray, List.set_cons_zero, List.set_cons_succ]
      refine wpAnyH_ready (rs := [11]) (by kernel_rfl) (by simp) ?_
      refine AllReadyH.cons rfl (fun K hK => ?_) AllReadyH.nil
      go_simp
      refine (C11.out _ hv3).mono ?_
      rintro e u4 ⟨A9, c9, rfl, hc⟩
      have hv4 := hv3.trans (hc.mono hv3.size)
      clear hc
      go_wp2_with fail
      refine hK.out _ _ (⟨(hx.out _ hv4).x0, (hx.out _ hv4).x1, (ho.out _ hv4).x1⟩) (fun hHqb4 => ?_)
      clear hK K
      try simp only [Act.put, List.getElem_toArray, List.getElem_cons_zero, List.getElem_cons_succ, List.setIfInBounds_toArray, List.set_cons_zero, List.set_cons_succ]
      refine wpAnyH_take (i := 12) (v := ?vqb9) rfl (by kernel_rfl) (by kernel_rfl) (by kernel_rfl) (fun _ _ _ h => h) (Or.inl ⟨by kernel_rfl, ?yqb9⟩) hHqb4 ?rqb9
      case yqb9 => (intro w' hS; (try dsimp only at hS); obtain ⟨s0, s1, s2⟩ := hS; (try go_simp); (try with_reducible rfl))
      try simp only [Act.put, List.getElem_toArray, List.getElem_cons_zero, List.getElem_cons_succ, List.setIfInBounds_toArray, List.set_cons_zero, List.set_cons_succ]
      refine wpAnyH_take (i := 13) (v := ?vqb10) rfl (by kernel_rfl) (by kernel_rfl) (by kernel_rfl) (fun _ _ _ h => h) (Or.inl ⟨by kernel_rfl, ?yqb10⟩) hHqb4 ?rqb10
      case yqb10 => (intro w' hS; (try dsimp only at hS); obtain ⟨s0, s1, s2⟩ := hS; (try go_simp); (try with_reducible rfl))
      try simp only [Act.put, List.getElem_toArray, List.getElem_cons_zero, List.getElem_cons_succ, List.setIfInBounds_toArray, List.set_cons_zero, List.set_cons_succ]
      refine wpAnyH_take (i := 14) (v := ?vqb11) rfl (by kernel_rfl) (by kernel_rfl) (by kernel_rfl) (fun _ _ _ h => h) (Or.inl ⟨by kernel_rfl, ?yqb11⟩) hHqb4 ?rqb11
      case yqb11 => (intro w' hS; (try dsimp only at hS); obtain ⟨s0, s1, s2⟩ := hS; (try go_simp); (try with_reducible rfl))
      try simp only [Act.put, List.getElem_toArray, List.getElem_cons_zero, List.getElem_cons_succ, List.setIfInBounds_toArray, List.set_cons_zero, List.set_cons_succ]
      refine wpAnyH_take (i := 15) (v := ?vqb12) rfl (by kernel_rfl) (by kernel_rfl) (by kernel_rfl) (fun _ _ _ h => h) (Or.inl ⟨by kernel_rfl, ?yqb12⟩) hHqb4 ?rqb12
      case yqb12 => (intro w' hS; (try dsimp only at hS); obtain ⟨s0, s1, s2⟩ := hS; (try go_simp); (try with_reducible rfl))
      try simp only [Act.put, List.getElem_toArray, List.getElem_cons_zero, List.getElem_cons_succ, List.setIfInBounds_toArray, List.set_cons_zero, List.set_cons_succ]
      refine wpAnyH_done (by kernel_rfl) ?_ _
      have hBf := hvd.trans (hv4.mono (by have := hvd.size; omega))
      go_wp2
      go_ret
      exact ⟨rfl, hBf⟩
  · rw [show storeOk s = false from by simpa using hok]
    clear hok
    go_wp2_with fail
    refine (spec_StoreAll' s A1 D1 _ _ c1 d1 _ hH.hn hH.hm (small_fl HSM.out) hH.fl hH.dk).mono ?_
    rintro e w6 ⟨A6, c6, rfl, hL6, hb⟩
    have hs6 := hb.size
    have hH6 := hH.below hb (Nat.le_refl _)
    have hB6 := hB.trans (hb.mono (by omega))
    replace x0 := hH6.x0
    replace x1 := hH6.x1
    replace hL2 := hL2.below hb (Nat.le_refl _)
    clear hH hB hb
    have hH := hH6
    have hB := hB6
    clear hH6 hB6
    go_wp2_with fail
    refine (laws_lqInts A2 A6 _ _ c2 c6 (allSp s) (allSp s) _ rfl rfl (by have := allSp_len s; omega) hL2 hL6).mono ?_
    rintro e w7 ⟨rfl, hb⟩
    have hs7 := hb.size
    have hH7 := hH.below hb (Nat.le_refl _)
    have hB7 := hB.trans (hb.mono (by omega))
    clear hH hB hb
    rw [show decide (allSp s = allSp s) = true from decide_eq_true rfl]
    go_wp2
    go_ret
    exact ⟨rfl, hB7⟩
set_option maxHeartbeats 8000000 in
set_option maxRecDepth 100000 in
theorem law_FnAll {w : World} (A : Option Addr) (bs : List Nat) (c : Nat) (hc : Code w A bs c) :
    Calls Try.prog 6 #[.slice A bs.length c] w fun e w' => e = .returned (.bool true) ∧ Below w.heap.size w w' := by
  by_cases hlen : (1048576 : Int) < bs.length
  · go_enter Try.func6, Try.ntmps6
    go_wp2
    go_ret
    exact ⟨rfl, Below.refl _ _⟩
  go_enter Try.func6, Try.ntmps6
  go_wp2_with fail
  refine (spec_DrawStoreAll A bs c _ hc).mono ?_
  rintro e w1 ⟨A1, D1, c1, d1, s, rfl, hsm, hO, hb1⟩
  have hs1 := hb1.size
  have HSM := Lib.hid hsm
  have hH := Held.new w1 (c := c1) (d := d1) hO.ofl.fl hO.disk rfl rfl
  have hB1 : Below w.heap.size w (w1.alloc (.cells #[.slice A1 s.flash.length c1, .slice D1 s.disk.length d1] 39)) := hb1.alloc (by omega) _
  have hs2 : (w1.alloc (.cells #[.slice A1 s.flash.length c1, .slice D1 s.disk.length d1] 39)).heap.size = w1.heap.size + 1 := by simp
  obtain ⟨W, hW⟩ : ∃ W, w1.alloc (.cells #[.slice A1 s.flash.length c1, .slice D1 s.disk.length d1] 39) = W := ⟨_, rfl⟩
  obtain ⟨bx, hbx⟩ : ∃ b, w1.heap.size = b := ⟨_, rfl⟩
  rw [hW] at hH hB1 hs2
  rw [hbx] at hH hs2
  have x0 := hH.x0
  have x1 := hH.x1
  clear hsm hO hb1
  have hB := hB1
  clear hB1
  go_wp2_with fail
  refine (impl_StoreAll' s A1 D1 _ _ c1 d1 _ hH.hn hH.hm hH.fl hH.dk).mono ?_
  rintro e w2 ⟨A2, c2, rfl, hL2, hb⟩
  have hs2 := hb.size
  have hH2 := hH.below hb (Nat.le_refl _)
  have hB2 := hB.trans (hb.mono (by omega))
  replace x0 := hH2.x0
  replace x1 := hH2.x1
  clear hH hB hb
  have hH := hH2
  have hB := hB2
  clear hH2 hB2
  go_wp2_with fail
  refine (spec_StoreAll' s A1 D1 _ _ c1 d1 _ hH.hn hH.hm (small_fl HSM.out) hH.fl hH.dk).mono ?_
  rintro e w3 ⟨A3, c3, rfl, hL3, hb⟩
  have hs3 := hb.size
  have hH3 := hH.below hb (Nat.le_refl _)
  have hB3 := hB.trans (hb.mono (by omega))
  replace x0 := hH3.x0
  replace x1 := hH3.x1
  replace hL2 := hL2.below hb (Nat.le_refl _)
  clear hH hB hb
  have hH := hH3
  have hB := hB3
  clear hH3 hB3
  go_wp2_with fail
  refine (laws_lqInts A2 A3 _ _ c2 c3 (allSp s) (allSp s) _ rfl rfl (by have := allSp_len s; omega) hL2 hL3).mono ?_
  rintro e w4 ⟨rfl, hb⟩
  have hs4 := hb.size
  have hH4 := hH.below hb (Nat.le_refl _)
  have hB4 := hB.trans (hb.mono (by omega))
  replace x0 := hH4.x0
  replace x1 := hH4.x1
  replace hL2 := hL2.below hb (Nat.le_refl _)
  clear hH hB hb
  have hH := hH4
  have hB := hB4
  clear hH4 hB4
  rw [show decide (allSp s = allSp s) = true from decide_eq_true rfl]
  clear hL3
  go_wp2_with fail
  refine (spec_StoreOk s A1 D1 _ _ c1 d1 _ hH.hn hH.hm (small_fl HSM.out) hH.fl hH.dk).mono ?_
  rintro e w5 ⟨rfl, hb⟩
  have hs5 := hb.size
  have hH5 := hH.below hb (Nat.le_refl _)
  have hB5 := hB.trans (hb.mono (by omega))
  replace x0 := hH5.x0
  replace x1 := hH5.x1
  replace hL2 := hL2.below hb (Nat.le_refl _)
  clear hH hB hb
  have hH := hH5
  have hB := hB5
  clear hH5 hB5
  by_cases hok : storeOk s = true
  · have HOK := Lib.hid hok
    have HP := Lib.hid (storeOk_parts hok)
    have hal : allSp s = allV s := by unfold allSp; rw [if_pos hok]
    have hal6 : (allSp s).length = 6 := by rw [hal]; rfl
    rw [hal] at hL2
    have hl6 := (storeOk_parts hok).1
    obtain ⟨lb, lo, rfl⟩ := hL2.addr (ints_ne' (by intro e; have := congrArg List.length e; rw [allV_len] at this; simp at this))
    rw [hok, hal6]
    rw [hl6] at x1 hH
    clear hok hal hal6 hl6
    go_wp2
    go_loopw [5] (fun i wr => ∃ k : Nat, k ≤ 6 ∧ i = .int .i64 k ∧ Below w5.heap.size w5 wr) (fun i _ => 6 - (intOf i).toNat)
    case atStart => exact ⟨0, by omega, rfl, Below.refl _ _⟩
    case round =>
      obtain ⟨k, hk, rfl, hBr⟩ := hrel
      by_cases hlt : k < 6
      · have hk1 : (k : Int) < 6 := by omega
        have e1 : IntKind.i64.wrap ((k : Int) + 1) = (k : Int) + 1 := IntWalk.i64_in _ (by omega)
        have HV := Lib.hid (allV_get s hlt)
        have HRD := Lib.hid (storeRead_ok HOK.out hlt)
        generalize readV s ((k : Int) + 1) = v at *
        have hx := Lib.hid (fun X (h : Below wr.drew.heap.size wr.drew X) => (hH.below hBr (Nat.le_refl _)).drew.below h (Nat.le_refl _))
        have hl := Lib.hid (fun X (h : Below wr.drew.heap.size wr.drew X) => (((hL2.below hBr (Nat.le_refl _)).drew.below h (Nat.le_refl _)).int_ HV.out).1)
        have CR := Lib.hid (fun X (h : Below wr.drew.heap.size wr.drew X) => (impl_StoreRead s ((k : Int) + 1) _ _ _ 6 c1 d1 X (hx.out X h).hn (hx.out X h).hm (hx.out X h).fl (hx.out X h).dk).mono (fun e w' (q : e = .returned (.int .i64 (storeRead s ((k : Int) + 1))) ∧ Below X.heap.size X w') => (show e = .returned (.int .i64 v) ∧ Below X.heap.size X w' from by rw [HRD.out] at q; exact q)))
        have hb0 : Below wr.drew.heap.size wr.drew wr.drew := Below.refl _ _
        have hBd : Below w5.heap.size w5 wr.drew := hBr.drew
        go_wp2
        refine wp_region_held_drew (S := fun X => X.cell? ⟨bx, 0, none⟩ = some (.slice A1 s.flash.length c1) ∧ X.cell? ⟨bx, 1, none⟩ = some (.slice D1 6 d1) ∧ X.cell? ⟨lb, lo + k, none⟩ = some (.int .i64 v)) (by kernel_rfl) ⟨(hx.out _ hb0).x0, (hx.out _ hb0).x1, hl.out _ hb0⟩ (fun hHeld0 => ?_)
        refine wpAnyH_take (i := 0) (v := ?va1) rfl (by kernel_rfl) (by kernel_rfl) (by kernel_rfl) (fun _ _ _ h => h) (Or.inl ⟨by kernel_rfl, ?ya1⟩) hHeld0 ?ra1
        case ya1 => (intro w' hS; (try dsimp only at hS); obtain ⟨s0, s1, s2⟩ := hS; (try go_simp); (try with_reducible rfl))
        try simp only [Act.put, List.getElem_toArray, List.getElem_cons_zero, List.getElem_cons_succ, List.setIfInBounds_toArray, List.set_cons_zero, List.set_cons_succ]
        refine wpAnyH_take (i := 1) (v := ?va2) rfl (by kernel_rfl) (by kernel_rfl) (by kernel_rfl) (fun _ _ _ h => h) (Or.inl ⟨by kernel_rfl, ?ya2⟩) hHeld0 ?ra2
        case ya2 => (intro w' hS; (try dsimp only at hS); obtain ⟨s0, s1, s2⟩ := hS; (try go_simp); (try with_reducible rfl))
        try simp only [Act.put, List.getElem_toArray, List.getElem_cons_zero, List.getElem_cons_succ, List.setIfInBounds_toArray, List.set_cons_zero, List.set_cons_succ]
        refine wpAnyH_take (i := 2) (v := ?va3) rfl (by kernel_rfl) (by kernel_rfl) (by kernel_rfl) (fun _ _ _ h => h) (Or.inl ⟨by kernel_rfl, ?ya3⟩) hHeld0 ?ra3
        case ya3 => (intro w' hS; (try dsimp only at hS); obtain ⟨s0, s1, s2⟩ := hS; (try go_simp); (try with_reducible rfl))
        try simp only [Act.put, List.getElem_toArray, List.getElem_cons_zero, List.getElem_cons_succ, List.setIfInBounds_toArray, List.set_cons_zero, List.set_cons_succ]
        refine wpAnyH_take (i := 3) (v := ?va4) rfl (by kernel_rfl) (by kernel_rfl) (by kernel_rfl) (fun _ _ _ h => h) (Or.inl ⟨by kernel_rfl, ?ya4⟩) hHeld0 ?ra4
        case ya4 => (intro w' hS; (try dsimp only at hS); obtain ⟨s0, s1, s2⟩ := hS; (try go_simp); (try with_reducible rfl))
        try simp only [Act.put, List.getElem_toArray, List.getElem_cons_zero, List.getElem_cons_succ, List.setIfInBounds_toArray, List.set_cons_zero, List.set_cons_succ]
        refine wpAnyH_take (i := 4) (v := ?va5) rfl (by kernel_rfl) (by kernel_rfl) (by kernel_rfl) (fun _ _ _ h => h) (Or.inl ⟨by kernel_rfl, ?ya5⟩) hHeld0 ?ra5
        case ya5 => (intro w' hS; (try dsimp only at hS); obtain ⟨s0, s1, s2⟩ := hS; (try go_simp); (try with_reducible rfl))
        try simp only [Act.put, List.getElem_toArray, List.getElem_cons_zero, List.getElem_cons_succ, List.setIfInBounds_toArray, List.set_cons_zero, List.set_cons_succ]
        refine wpAnyH_take (i := 5) (v := ?va6) rfl (by kernel_rfl) (by kernel_rfl) (by kernel_rfl) (fun _ _ _ h => h) (Or.inl ⟨by kernel_rfl, ?ya6⟩) hHeld0 ?ra6
        case ya6 => (intro w' hS; (try dsimp only at hS); obtain ⟨s0, s1, s2⟩ := hS; (try go_simp); (try with_reducible rfl))
        try simp only [Act.put, List.getElem_toArray, List.getElem_cons_zero, List.getElem_cons_succ, List.setIfInBounds_toArray, List.set_cons_zero, List.set_cons_succ]
        refine wpAnyH_take (i := 6) (v := ?va7) rfl (by kernel_rfl) (by kernel_rfl) (by kernel_rfl) (fun _ _ _ h => h) (Or.inl ⟨by kernel_rfl, ?ya7⟩) hHeld0 ?ra7
        case ya7 => (intro w' hS; (try dsimp only at hS); obtain ⟨s0, s1, s2⟩ := hS; (try go_simp); (try with_reducible rfl))
        try simp only [Act.put, List.getElem_toArray, List.getElem_cons_zero, List.getElem_cons_succ, List.setIfInBounds_toArray, List.set_cons_zero, List.set_cons_succ]
        refine wpAnyH_ready (rs := [7]) (by kernel_rfl) (by simp) ?_
        refine AllReadyH.cons rfl (fun K hK => ?_) AllReadyH.nil
        go_simp
        refine (CR.out _ hb0).mono ?_
        rintro e w6 ⟨rfl, hc⟩
        have hb1 := hb0.trans (hc.mono hb0.size)
        have hBn := hBd.trans (hb1.mono hBd.size)
        go_wp2_with fail
        refine hK.out _ _ (⟨(hx.out _ hb1).x0, (hx.out _ hb1).x1, hl.out _ hb1⟩) (fun hHa1 => ?_)
        clear hK K
        try simp only [Act.put, List.getElem_toArray, List.getElem_cons_zero, List.getElem_cons_succ, List.setIfInBounds_toArray, List.set_cons_zero, List.set_cons_succ]
        refine wpAnyH_take (i := 8) (v := ?va8) rfl (by kernel_rfl) (by kernel_rfl) (by kernel_rfl) (fun _ _ _ h => h) (Or.inl ⟨by kernel_rfl, ?ya8⟩) hHa1 ?ra8
        case ya8 => (intro w' hS; (try dsimp only at hS); obtain ⟨s0, s1, s2⟩ := hS; (try go_simp); (try with_reducible rfl))
        try simp only [Act.put, List.getElem_toArray, List.getElem_cons_zero, List.getElem_cons_succ, List.setIfInBounds_toArray, List.set_cons_zero, List.set_cons_succ]
        refine wpAnyH_done (by kernel_rfl) ?_ _
        clear hx hl CR
        go_wp2
        go_roundw
        (case rel => exact ⟨k + 1, by omega, by go_num, hBn⟩)
        (case measure => simp [intOf]; omega)
      · have hk6 : (6 : Int) ≤ (k : Int) := by omega
        have hBw := hB.trans (hBr.mono (by have := hB.size; omega))
        have hmk := make_disk
        have HAX : Hid (allSp ⟨flashNew, disk0⟩ = disk0) := by unfold Hid allSp; rw [if_pos new_ok, allV_new rfl]
        have hBd : Below w.heap.size w wr.drew := hBw.drew
        have hbz : Below wr.drew.heap.size wr.drew wr.drew := Below.refl _ _
        go_wp2
        refine wp_region_held_drew (S := fun _ => True) (by kernel_rfl) trivial (fun hHeld0 => ?_)
        refine wpAnyH_take (i := 0) (v := ?vb1) rfl (by kernel_rfl) (by kernel_rfl) (by kernel_rfl) (fun _ _ _ h => h) (Or.inl ⟨by kernel_rfl, ?yb1⟩) hHeld0 ?rb1
        case yb1 => (intro w' hS; (try dsimp only at hS); obtain _ := hS; (try go_simp); (try with_reducible rfl))
        try simp only [Act.put, List.getElem_toArray, List.getElem_cons_zero, List.getElem_cons_succ, List.setIfInBounds_toArray, List.set_cons_zero, List.set_cons_succ]
        refine wpAnyH_take (i := 1) (v := ?vb2) rfl (by kernel_rfl) (by kernel_rfl) (by kernel_rfl) (fun _ _ _ h => h) (Or.inl ⟨by kernel_rfl, ?yb2⟩) hHeld0 ?rb2
        case yb2 => (intro w' hS; (try dsimp only at hS); obtain _ := hS; (try go_simp); (try with_reducible rfl))
        try simp only [Act.put, List.getElem_toArray, List.getElem_cons_zero, List.getElem_cons_succ, List.setIfInBounds_toArray, List.set_cons_zero, List.set_cons_succ]
        refine wpAnyH_take (i := 2) (v := ?vb3) rfl (by kernel_rfl) (by kernel_rfl) (by kernel_rfl) (fun _ _ _ h => h) (Or.inl ⟨by kernel_rfl, ?yb3⟩) hHeld0 ?rb3
        case yb3 => (intro w' hS; (try dsimp only at hS); obtain _ := hS; (try go_simp); (try with_reducible rfl))
        try simp only [Act.put, List.getElem_toArray, List.getElem_cons_zero, List.getElem_cons_succ, List.setIfInBounds_toArray, List.set_cons_zero, List.set_cons_succ]
        refine wpAnyH_take (i := 3) (v := ?vb4) rfl (by kernel_rfl) (by kernel_rfl) (by kernel_rfl) (fun _ _ _ h => h) (Or.inl ⟨by kernel_rfl, ?yb4⟩) hHeld0 ?rb4
        case yb4 => (intro w' hS; (try dsimp only at hS); obtain _ := hS; (try go_simp); (try with_reducible rfl))
        try simp only [Act.put, List.getElem_toArray, List.getElem_cons_zero, List.getElem_cons_succ, List.setIfInBounds_toArray, List.set_cons_zero, List.set_cons_succ]
        refine wpAnyH_ready (rs := [4, 6]) (by kernel_rfl) (by simp) ?_
        refine AllReadyH.cons rfl (fun K hK => ?_) (AllReadyH.cons rfl (fun K hK => ?_) AllReadyH.nil)
        · go_simp
          refine (impl_StoreNew _).mono ?_
          rintro e w6 ⟨A4, c4, D4, rfl, hc4, hO4, hc⟩
          have hbz1 := hbz.trans (hc.mono hbz.size)
          clear hc
          go_wp2_with fail
          refine hK.out _ _ (trivial) (fun hHb1 => ?_)
          clear hK K
          try simp only [Act.put, List.getElem_toArray, List.getElem_cons_zero, List.getElem_cons_succ, List.setIfInBounds_toArray, List.set_cons_zero, List.set_cons_succ]
          refine wpAnyH_ready (rs := [5, 6]) (by kernel_rfl) (by simp) ?_
          refine AllReadyH.cons rfl (fun K hK => ?_) (AllReadyH.cons rfl (fun K hK => ?_) AllReadyH.nil)
          · go_simp
            refine (impl_StoreAll' ⟨flashNew, disk0⟩ A4 D4 4 6 c4 6 _ rfl rfl hO4.ofl.fl hO4.disk).mono ?_
            rintro e w7 ⟨A5, c5, e5, hL5, hc⟩
            rw [HAX.out] at e5 hL5
            subst e5
            have hbz2 := hbz1.trans (hc.mono hbz1.size)
            replace hO4 := hO4.below hc (Nat.le_refl _)
            clear hc
            go_wp2_with fail
            refine hK.out _ _ (trivial) (fun hHb2 => ?_)
            clear hK K
            try simp only [Act.put, List.getElem_toArray, List.getElem_cons_zero, List.getElem_cons_succ, List.setIfInBounds_toArray, List.set_cons_zero, List.set_cons_succ]
            refine wpAnyH_ready (rs := [6]) (by kernel_rfl) (by simp) ?_
            refine AllReadyH.cons rfl (fun K hK => ?_) AllReadyH.nil
            go_simp
            have hbz3 := hbz2.alloc hbz2.size (.cells #[.int .i64 0, .int .i64 0, .int .i64 0, .int .i64 0, .int .i64 0, .int .i64 0] 3)
            replace hO4 := hO4.alloc' (.cells #[.int .i64 0, .int .i64 0, .int .i64 0, .int .i64 0, .int .i64 0, .int .i64 0] 3)
            replace hL5 := hL5.alloc (.cells #[.int .i64 0, .int .i64 0, .int .i64 0, .int .i64 0, .int .i64 0, .int .i64 0] 3)
            have hMk : Row _ _ (ints disk0) := Row.new w7 #[.int .i64 0, .int .i64 0, .int .i64 0, .int .i64 0, .int .i64 0, .int .i64 0] 3
            refine hK.out _ _ (trivial) (fun hHb3 => ?_)
            clear hK K
            try simp only [Act.put, List.getElem_toArray, List.getElem_cons_zero, List.getElem_cons_succ, List.setIfInBounds_toArray, List.set_cons_zero, List.set_cons_succ]
            refine wpAnyH_ready (rs := [7]) (by kernel_rfl) (by simp) ?_
            refine AllReadyH.cons rfl (fun K hK => ?_) AllReadyH.nil
            go_simp
            refine (laws_lqInts A5 _ 6 6 c5 6 disk0 disk0 _ rfl rfl (by decide) hL5 hMk).mono ?_
            rintro e w8 ⟨e8, hc⟩
            rw [decide_eq_true (rfl : disk0 = disk0)] at e8
            subst e8
            have hbz4 := hbz3.trans (hc.mono hbz3.size)
            go_wp2_with fail
            refine hK.out _ _ (trivial) (fun hHb4 => ?_)
            clear hK K
            try simp only [Act.put, List.getElem_toArray, List.getElem_cons_zero, List.getElem_cons_succ, List.setIfInBounds_toArray, List.set_cons_zero, List.set_cons_succ]
            refine wpAnyH_take (i := 8) (v := ?vb5) rfl (by kernel_rfl) (by kernel_rfl) (by kernel_rfl) (fun _ _ _ h => h) (Or.inl ⟨by kernel_rfl, ?yb5⟩) hHb4 ?rb5
            case yb5 => (intro w' hS; (try dsimp only at hS); obtain _ := hS; (try go_simp); (try with_reducible rfl))
            try simp only [Act.put, List.getElem_toArray, List.getElem_cons_zero, List.getElem_cons_succ, List.setIfInBounds_toArray, List.set_cons_zero, List.set_cons_succ]
            refine wpAnyH_take (i := 9) (v := ?vb6) rfl (by kernel_rfl) (by kernel_rfl) (by kernel_rfl) (fun _ _ _ h => h) (Or.inl ⟨by kernel_rfl, ?yb6⟩) hHb4 ?rb6
            case yb6 => (intro w' hS; (try dsimp only at hS); obtain _ := hS; (try go_simp); (try with_reducible rfl))
            try simp only [Act.put, List.getElem_toArray, List.getElem_cons_zero, List.getElem_cons_succ, List.setIfInBounds_toArray, List.set_cons_zero, List.set_cons_succ]
            refine wpAnyH_done (by kernel_rfl) ?_ _
            have hBf := hBd.trans (hbz4.mono (by have h := hBd.size; exact h))
            clear hmk
            go_wp2
            go_ret
            exact ⟨rfl, hBf⟩
          · go_simp
            have hbz2 := hbz1.alloc hbz1.size (.cells #[.int .i64 0, .int .i64 0, .int .i64 0, .int .i64 0, .int .i64 0, .int .i64 0] 3)
            replace hO4 := hO4.alloc' (.cells #[.int .i64 0, .int .i64 0, .int .i64 0, .int .i64 0, .int .i64 0, .int .i64 0] 3)
            have hMk : Row _ _ (ints disk0) := Row.new w6 #[.int .i64 0, .int .i64 0, .int .i64 0, .int .i64 0, .int .i64 0, .int .i64 0] 3
            refine hK.out _ _ (trivial) (fun hHb5 => ?_)
            clear hK K
            try simp only [Act.put, List.getElem_toArray, List.getElem_cons_zero, List.getElem_cons_succ, List.setIfInBounds_toArray, List.set_cons_zero, List.set_cons_succ]
            refine wpAnyH_ready (rs := [5]) (by kernel_rfl) (by simp) ?_
            refine AllReadyH.cons rfl (fun K hK => ?_) AllReadyH.nil
            go_simp
            refine (impl_StoreAll' ⟨flashNew, disk0⟩ A4 D4 4 6 c4 6 _ rfl rfl hO4.ofl.fl hO4.disk).mono ?_
            rintro e w7 ⟨A5, c5, e5, hL5, hc⟩
            rw [HAX.out] at e5 hL5
            subst e5
            have hbz3 := hbz2.trans (hc.mono hbz2.size)
            replace hO4 := hO4.below hc (Nat.le_refl _)
            replace hMk := hMk.below hc (Nat.le_refl _)
            clear hc
            go_wp2_with fail
            refine hK.out _ _ (trivial) (fun hHb6 => ?_)
            clear hK K
            try simp only [Act.put, List.getElem_toArray, List.getElem_cons_zero, List.getElem_cons_succ, List.setIfInBounds_toArray, List.set_cons_zero, List.set_cons_succ]
            refine wpAnyH_ready (rs := [7]) (by kernel_rfl) (by simp) ?_
            refine AllReadyH.cons rfl (fun K hK => ?_) AllReadyH.nil
            go_simp
            refine (laws_lqInts A5 _ 6 6 c5 6 disk0 disk0 _ rfl rfl (by decide) hL5 hMk).mono ?_
            rintro e w8 ⟨e8, hc⟩
            rw [decide_eq_true (rfl : disk0 = disk0)] at e8
            subst e8
            have hbz4 := hbz3.trans (hc.mono hbz3.size)
            go_wp2_with fail
            refine hK.out _ _ (trivial) (fun hHb7 => ?_)
            clear hK K
            try simp only [Act.put, List.getElem_toArray, List.getElem_cons_zero, List.getElem_cons_succ, List.setIfInBounds_toArray, List.set_cons_zero, List.set_cons_succ]
            refine wpAnyH_take (i := 8) (v := ?vb7) rfl (by kernel_rfl) (by kernel_rfl) (by kernel_rfl) (fun _ _ _ h => h) (Or.inl ⟨by kernel_rfl, ?yb7⟩) hHb7 ?rb7
            case yb7 => (intro w' hS; (try dsimp only at hS); obtain _ := hS; (try go_simp); (try with_reducible rfl))
            try simp only [Act.put, List.getElem_toArray, List.getElem_cons_zero, List.getElem_cons_succ, List.setIfInBounds_toArray, List.set_cons_zero, List.set_cons_succ]
            refine wpAnyH_take (i := 9) (v := ?vb8) rfl (by kernel_rfl) (by kernel_rfl) (by kernel_rfl) (fun _ _ _ h => h) (Or.inl ⟨by kernel_rfl, ?yb8⟩) hHb7 ?rb8
            case yb8 => (intro w' hS; (try dsimp only at hS); obtain _ := hS; (try go_simp); (try with_reducible rfl))
            try simp only [Act.put, List.getElem_toArray, List.getElem_cons_zero, List.getElem_cons_succ, List.setIfInBounds_toArray, List.set_cons_zero, List.set_cons_succ]
            refine wpAnyH_done (by kernel_rfl) ?_ _
            have hBf := hBd.trans (hbz4.mono (by have h := hBd.size; exact h))
            clear hmk
            go_wp2
            go_ret
            exact ⟨rfl, hBf⟩
        · go_simp
          have hbz1 := hbz.alloc hbz.size (.cells #[.int .i64 0, .int .i64 0, .int .i64 0, .int .i64 0, .int .i64 0, .int .i64 0] 3)
          have hMk : Row _ _ (ints disk0) := Row.new wr.drew #[.int .i64 0, .int .i64 0, .int .i64 0, .int .i64 0, .int .i64 0, .int .i64 0] 3
          refine hK.out _ _ (trivial) (fun hHb8 => ?_)
          clear hK K
          try simp only [Act.put, List.getElem_toArray, List.getElem_cons_zero, List.getElem_cons_succ, List.setIfInBounds_toArray, List.set_cons_zero, List.set_cons_succ]
          refine wpAnyH_ready (rs := [4]) (by kernel_rfl) (by simp) ?_
          refine AllReadyH.cons rfl (fun K hK => ?_) AllReadyH.nil
          go_simp
          refine (impl_StoreNew _).mono ?_
          rintro e w6 ⟨A4, c4, D4, rfl, hc4, hO4, hc⟩
          have hbz2 := hbz1.trans (hc.mono hbz1.size)
          replace hMk := hMk.below hc (Nat.le_refl _)
          clear hc
          go_wp2_with fail
          refine hK.out _ _ (trivial) (fun hHb9 => ?_)
          clear hK K
          try simp only [Act.put, List.getElem_toArray, List.getElem_cons_zero, List.getElem_cons_succ, List.setIfInBounds_toArray, List.set_cons_zero, List.set_cons_succ]
          refine wpAnyH_ready (rs := [5]) (by kernel_rfl) (by simp) ?_
          refine AllReadyH.cons rfl (fun K hK => ?_) AllReadyH.nil
          go_simp
          refine (impl_StoreAll' ⟨flashNew, disk0⟩ A4 D4 4 6 c4 6 _ rfl rfl hO4.ofl.fl hO4.disk).mono ?_
          rintro e w7 ⟨A5, c5, e5, hL5, hc⟩
          rw [HAX.out] at e5 hL5
          subst e5
          have hbz3 := hbz2.trans (hc.mono hbz2.size)
          replace hMk := hMk.below hc (Nat.le_refl _)
          replace hO4 := hO4.below hc (Nat.le_refl _)
          clear hc
          go_wp2_with fail
          refine hK.out _ _ (trivial) (fun hHb10 => ?_)
          clear hK K
          try simp only [Act.put, List.getElem_toArray, List.getElem_cons_zero, List.getElem_cons_succ, List.setIfInBounds_toArray, List.set_cons_zero, List.set_cons_succ]
          refine wpAnyH_ready (rs := [7]) (by kernel_rfl) (by simp) ?_
          refine AllReadyH.cons rfl (fun K hK => ?_) AllReadyH.nil
          go_simp
          refine (laws_lqInts A5 _ 6 6 c5 6 disk0 disk0 _ rfl rfl (by decide) hL5 hMk).mono ?_
          rintro e w8 ⟨e8, hc⟩
          rw [decide_eq_true (rfl : disk0 = disk0)] at e8
          subst e8
          have hbz4 := hbz3.trans (hc.mono hbz3.size)
          go_wp2_with fail
          refine hK.out _ _ (trivial) (fun hHb11 => ?_)
          clear hK K
          try simp only [Act.put, List.getElem_toArray, List.getElem_cons_zero, List.getElem_cons_succ, List.setIfInBounds_toArray, List.set_cons_zero, List.set_cons_succ]
          refine wpAnyH_take (i := 8) (v := ?vb9) rfl (by kernel_rfl) (by kernel_rfl) (by kernel_rfl) (fun _ _ _ h => h) (Or.inl ⟨by kernel_rfl, ?yb9⟩) hHb11 ?rb9
          case yb9 => (intro w' hS; (try dsimp only at hS); obtain _ := hS; (try go_simp); (try with_reducible rfl))
          try simp only [Act.put, List.getElem_toArray, List.getElem_cons_zero, List.getElem_cons_succ, List.setIfInBounds_toArray, List.set_cons_zero, List.set_cons_succ]
          refine wpAnyH_take (i := 9) (v := ?vb10) rfl (by kernel_rfl) (by kernel_rfl) (by kernel_rfl) (fun _ _ _ h => h) (Or.inl ⟨by kernel_rfl, ?yb10⟩) hHb11 ?rb10
          case yb10 => (intro w' hS; (try dsimp only at hS); obtain _ := hS; (try go_simp); (try with_reducible rfl))
          try simp only [Act.put, List.getElem_toArray, List.getElem_cons_zero, List.getElem_cons_succ, List.setIfInBounds_toArray, List.set_cons_zero, List.set_cons_succ]
          refine wpAnyH_done (by kernel_rfl) ?_ _
          have hBf := hBd.trans (hbz4.mono (by have h := hBd.size; exact h))
          clear hmk
          go_wp2
          go_ret
          exact ⟨rfl, hBf⟩
  · rw [show storeOk s = false from by simpa using hok]
    clear hok
    go_wp2_with fail
    refine (spec_StoreAll' s A1 D1 _ _ c1 d1 _ hH.hn hH.hm (small_fl HSM.out) hH.fl hH.dk).mono ?_
    rintro e w6 ⟨A6, c6, rfl, hL6, hb⟩
    have hs6 := hb.size
    have hH6 := hH.below hb (Nat.le_refl _)
    have hB6 := hB.trans (hb.mono (by omega))
    replace x0 := hH6.x0
    replace x1 := hH6.x1
    replace hL2 := hL2.below hb (Nat.le_refl _)
    clear hH hB hb
    have hH := hH6
    have hB := hB6
    clear hH6 hB6
    go_wp2_with fail
    refine (laws_lqInts A2 A6 _ _ c2 c6 (allSp s) (allSp s) _ rfl rfl (by have := allSp_len s; omega) hL2 hL6).mono ?_
    rintro e w7 ⟨rfl, hb⟩
    have hs7 := hb.size
    have hH7 := hH.below hb (Nat.le_refl _)
    have hB7 := hB.trans (hb.mono (by omega))
    clear hH hB hb
    rw [show decide (allSp s = allSp s) = true from decide_eq_true rfl]
    go_wp2
    go_ret
    exact ⟨rfl, hB7⟩
set_option maxHeartbeats 8000000 in
set_option maxRecDepth 100000 in
theorem law_FnStoreNew {w : World} (A : Option Addr) (bs : List Nat) (c : Nat) (hc : Code w A bs c) :
    Calls Try.prog 7 #[.slice A bs.length c] w fun e w' => e = .returned (.bool true) ∧ Below w.heap.size w w' := by
  by_cases hlen : (1048576 : Int) < bs.length
  · go_enter Try.func7, Try.ntmps7
    go_wp2
    go_ret
    exact ⟨rfl, Below.refl _ _⟩
  go_enter Try.func7, Try.ntmps7
  go_wp2_with fail
  refine (spec_DrawStoreOk A bs c _ hc).mono ?_
  rintro e w1 ⟨A1, D1, c1, d1, s, rfl, hsm, hO, hb1⟩
  have hs1 := hb1.size
  have HSM := Lib.hid hsm
  have hH := Held.new w1 (c := c1) (d := d1) hO.ofl.fl hO.disk rfl rfl
  have hB1 : Below w.heap.size w (w1.alloc (.cells #[.slice A1 s.flash.length c1, .slice D1 s.disk.length d1] 39)) := hb1.alloc (by omega) _
  have hs2 : (w1.alloc (.cells #[.slice A1 s.flash.length c1, .slice D1 s.disk.length d1] 39)).heap.size = w1.heap.size + 1 := by simp
  obtain ⟨W, hW⟩ : ∃ W, w1.alloc (.cells #[.slice A1 s.flash.length c1, .slice D1 s.disk.length d1] 39) = W := ⟨_, rfl⟩
  obtain ⟨bx, hbx⟩ : ∃ b, w1.heap.size = b := ⟨_, rfl⟩
  rw [hW] at hH hB1 hs2
  rw [hbx] at hH hs2
  have x0 := hH.x0
  have x1 := hH.x1
  clear hsm hO hb1
  have hB := hB1
  clear hB1
  go_wp2_with fail
  refine (impl_StoreOk s A1 D1 _ _ c1 d1 _ hH.hn hH.hm hH.fl hH.dk).mono ?_
  rintro e w2 ⟨rfl, hb⟩
  have hs2 := hb.size
  have hH2 := hH.below hb (Nat.le_refl _)
  have hB2 := hB.trans (hb.mono (by omega))
  replace x0 := hH2.x0
  replace x1 := hH2.x1
  clear hH hB hb
  have hH := hH2
  have hB := hB2
  clear hH2 hB2
  go_wp2_with fail
  refine (spec_StoreOk s A1 D1 _ _ c1 d1 _ hH.hn hH.hm (small_fl HSM.out) hH.fl hH.dk).mono ?_
  rintro e w3 ⟨rfl, hb⟩
  have hs3 := hb.size
  have hH3 := hH.below hb (Nat.le_refl _)
  have hB3 := hB.trans (hb.mono (by omega))
  replace x0 := hH3.x0
  replace x1 := hH3.x1
  clear hH hB hb
  have hH := hH3
  have hB := hB3
  clear hH3 hB3
  have hself : (storeOk s != storeOk s) = false := by simp
  go_wp2_with fail
  refine (impl_StoreNew _).mono ?_
  rintro e w4 ⟨A4, c4, D4, rfl, hc4, hO4, hb⟩
  have hs4 := hb.size
  have hH4 := Held.new w4 (c := c4) (d := 6) hO4.ofl.fl hO4.disk (s := ⟨flashNew, disk0⟩) (n := 4) (m := 6) rfl rfl
  have hB4 := (hB.trans (hb.mono (by omega))).alloc (by have := hB.size; omega) (.cells #[.slice A4 4 c4, .slice D4 6 6] 39)
  obtain ⟨W4, hW4⟩ : ∃ W, w4.alloc (.cells #[.slice A4 4 c4, .slice D4 6 6] 39) = W := ⟨_, rfl⟩
  obtain ⟨bn, hbn⟩ : ∃ b, w4.heap.size = b := ⟨_, rfl⟩
  rw [hW4] at hH4 hB4
  rw [hbn] at hH4
  clear hO4 hb hH hB x0 x1 hs4
  have hOK := new_ok
  have HOKN := Lib.hid hOK
  have hFK : Hid (flashOk flashNew = true) := order_ok order_new
  clear hOK hself
  go_wp2
  (try rw [hW4])
  (try simp only [hbn])
  go_loopw [6, 7] (fun q i wr => ∃ k : Nat, k ≤ 4 ∧ i = .int .i64 k ∧ q = .int .i64 (4 * k : Int) ∧ Below W4.heap.size W4 wr) (fun _ i _ => 4 - (intOf i).toNat)
  case atStart => exact ⟨0, by omega, rfl, rfl, Below.refl _ _⟩
  case round =>
    obtain ⟨k, hk, rfl, rfl, hBr⟩ := hrel
    have hHr := hH4.below hBr (Nat.le_refl _)
    have y0 := hHr.x0
    by_cases hlt : k < 4
    · have hk1 : (k : Int) < 4 := by omega
      have e1 : IntKind.i64.wrap ((k : Int) + 1) = (k : Int) + 1 := IntWalk.i64_in _ (by omega)
      have e2 : IntKind.i64.wrap (4 * (k : Int) + 4) = 4 * (k : Int) + 4 := IntWalk.i64_in _ (by omega)
      have hfc : Hid (flashClean flashNew k = 4) := by
        have hb : flashNew[k]? = some newBlock := by unfold flashNew; rw [List.getElem?_replicate, if_pos hlt]
        rw [Hid, flashClean_at hFK.out hlt hb]; rfl
      go_wp2_with fail
      refine (impl_FlashClean flashNew k _ _ c4 _ rfl hHr.fl).mono ?_
      rw [hfc.out]
      rintro e w5 ⟨rfl, hb⟩
      have hB5 := hBr.trans (hb.mono hBr.size)
      clear hb hHr
      go_wp2
      go_roundw
      (case rel => exact ⟨k + 1, by omega, by go_num, by congr 1 <;> omega, hB5⟩)
      (case measure => simp [intOf]; omega)
    · have hk6 : (4 : Int) ≤ (k : Int) := by omega
      have hkk : (4 * (k : Int)) = 16 := by omega
      have hk16 : ((4 * (k : Int)) == 16) = true := by rw [hkk]; rfl
      have hBw := hB4.trans (hBr.mono (by have := hB4.size; omega))
      have hBd : Below w.heap.size w wr.drew := hBw.drew
      have hbz : Below wr.drew.heap.size wr.drew wr.drew := Below.refl _ _
      have hx := Lib.hid (fun X (h : Below wr.drew.heap.size wr.drew X) => hHr.drew.below h (Nat.le_refl _))
      have C1 := Lib.hid (fun X (h : Below wr.drew.heap.size wr.drew X) => (impl_StoreOk ⟨flashNew, disk0⟩ _ _ 4 6 c4 6 X rfl rfl (hx.out X h).fl (hx.out X h).dk).mono (fun e w' (q : e = .returned (.bool (storeOk ⟨flashNew, disk0⟩)) ∧ Below X.heap.size X w') => (show e = .returned (.bool true) ∧ Below X.heap.size X w' from by rw [HOKN.out] at q; exact q)))
      have HDX : Hid (dirtyL ⟨flashNew, disk0⟩ = []) := dirtyL_new
      have C4 := Lib.hid (fun X (h : Below wr.drew.heap.size wr.drew X) => (impl_StoreDirty' ⟨flashNew, disk0⟩ _ _ 4 6 c4 6 X rfl rfl (hx.out X h).fl (hx.out X h).dk).mono (fun e w' (q : ∃ A' c', e = .returned (.slice A' (dirtyL ⟨flashNew, disk0⟩).length c') ∧ Row w' A' (ints (dirtyL ⟨flashNew, disk0⟩)) ∧ Below X.heap.size X w') => (show ∃ A' c', e = .returned (.slice A' 0 c') ∧ Below X.heap.size X w' from by rw [HDX.out] at q; obtain ⟨a, b, q1, _, q2⟩ := q; exact ⟨a, b, q1, q2⟩)))
      clear hkk hHr hk6
      go_wp2
      refine wp_region_held_drew (S := fun X => X.cell? ⟨bn, 0, none⟩ = some (.slice A4 4 c4) ∧ X.cell? ⟨bn, 1, none⟩ = some (.slice D4 6 6)) (by kernel_rfl) ⟨(hx.out _ hbz).x0, (hx.out _ hbz).x1⟩ (fun hHeld0 => ?_)
      refine wpAnyH_take (i := 0) (v := ?vn1) rfl (by kernel_rfl) (by kernel_rfl) (by kernel_rfl) (fun _ _ _ h => h) (Or.inl ⟨by kernel_rfl, ?yn1⟩) hHeld0 ?rn1
      case yn1 => (intro w' hS; (try dsimp only at hS); obtain ⟨s0, s1⟩ := hS; (try go_simp); (try with_reducible rfl))
      try simp only [Act.put, List.getElem_toArray, List.getElem_cons_zero, List.getElem_cons_succ, List.setIfInBounds_toArray, List.set_cons_zero, List.set_cons_succ]
      refine wpAnyH_ready (rs := [1]) (by kernel_rfl) (by simp) ?_
      refine AllReadyH.cons rfl (fun K hK => ?_) AllReadyH.nil
      go_simp
      refine (C1.out _ hbz).mono ?_
      rintro e u1 ⟨rfl, hc⟩
      have hv1 := hbz.trans (hc.mono hbz.size)
      clear hc
      go_wp2_with fail
      refine hK.out _ _ (⟨(hx.out _ hv1).x0, (hx.out _ hv1).x1⟩) (fun hHn1 => ?_)
      clear hK K
      try simp only [Act.put, List.getElem_toArray, List.getElem_cons_zero, List.getElem_cons_succ, List.setIfInBounds_toArray, List.set_cons_zero, List.set_cons_succ]
      refine wpAnyH_take (i := 2) (v := ?vn2) rfl (by kernel_rfl) (by kernel_rfl) (by kernel_rfl) (fun _ _ _ h => h) (Or.inl ⟨by kernel_rfl, ?yn2⟩) hHn1 ?rn2
      case yn2 => (intro w' hS; (try dsimp only at hS); obtain ⟨s0, s1⟩ := hS; (try go_simp); (try with_reducible rfl))
      try simp only [Act.put, List.getElem_toArray, List.getElem_cons_zero, List.getElem_cons_succ, List.setIfInBounds_toArray, List.set_cons_zero, List.set_cons_succ]
      refine wpAnyH_take (i := 3) (v := ?vn3) rfl (by kernel_rfl) (by kernel_rfl) (by kernel_rfl) (fun _ _ _ h => h) (Or.inl ⟨by kernel_rfl, ?yn3⟩) hHn1 ?rn3
      case yn3 => (intro w' hS; (try dsimp only at hS); obtain ⟨s0, s1⟩ := hS; (try go_simp); (try with_reducible rfl))
      try simp only [Act.put, List.getElem_toArray, List.getElem_cons_zero, List.getElem_cons_succ, List.setIfInBounds_toArray, List.set_cons_zero, List.set_cons_succ]
      refine wpAnyH_ready (rs := [4]) (by kernel_rfl) (by simp) ?_
      refine AllReadyH.cons rfl (fun K hK => ?_) AllReadyH.nil
      go_simp
      refine (C4.out _ hv1).mono ?_
      rintro e u2 ⟨A5, c5, rfl, hc⟩
      have hv2 := hv1.trans (hc.mono hv1.size)
      clear hc
      go_wp2_with fail
      refine hK.out _ _ (⟨(hx.out _ hv2).x0, (hx.out _ hv2).x1⟩) (fun hHn2 => ?_)
      clear hK K
      try simp only [Act.put, List.getElem_toArray, List.getElem_cons_zero, List.getElem_cons_succ, List.setIfInBounds_toArray, List.set_cons_zero, List.set_cons_succ]
      refine wpAnyH_take (i := 5) (v := ?vn4) rfl (by kernel_rfl) (by kernel_rfl) (by kernel_rfl) (fun _ _ _ h => h) (Or.inl ⟨by kernel_rfl, ?yn4⟩) hHn2 ?rn4
      case yn4 => (intro w' hS; (try dsimp only at hS); obtain ⟨s0, s1⟩ := hS; (try go_simp); (try with_reducible rfl))
      try simp only [Act.put, List.getElem_toArray, List.getElem_cons_zero, List.getElem_cons_succ, List.setIfInBounds_toArray, List.set_cons_zero, List.set_cons_succ]
      refine wpAnyH_take (i := 6) (v := ?vn5) rfl (by kernel_rfl) (by kernel_rfl) (by kernel_rfl) (fun _ _ _ h => h) (Or.inl ⟨by kernel_rfl, ?yn5⟩) hHn2 ?rn5
      case yn5 => (intro w' hS; (try dsimp only at hS); obtain ⟨s0, s1⟩ := hS; (try go_simp); (try with_reducible rfl))
      try simp only [Act.put, List.getElem_toArray, List.getElem_cons_zero, List.getElem_cons_succ, List.setIfInBounds_toArray, List.set_cons_zero, List.set_cons_succ]
      refine wpAnyH_take (i := 7) (v := ?vn6) rfl (by kernel_rfl) (by kernel_rfl) (by kernel_rfl) (fun _ _ _ h => h) (Or.inl ⟨by kernel_rfl, ?yn6⟩) hHn2 ?rn6
      case yn6 => (intro w' hS; (try dsimp only at hS); obtain ⟨s0, s1⟩ := hS; (try go_simp); (try with_reducible rfl))
      try simp only [Act.put, List.getElem_toArray, List.getElem_cons_zero, List.getElem_cons_succ, List.setIfInBounds_toArray, List.set_cons_zero, List.set_cons_succ]
      refine wpAnyH_take (i := 8) (v := ?vn7) rfl (by kernel_rfl) (by kernel_rfl) (by kernel_rfl) (fun _ _ _ h => h) (Or.inl ⟨by kernel_rfl, ?yn7⟩) hHn2 ?rn7
      case yn7 => (intro w' hS; (try dsimp only at hS); obtain ⟨s0, s1⟩ := hS; (try go_simp); (try with_reducible rfl))
      try simp only [Act.put, List.getElem_toArray, List.getElem_cons_zero, List.getElem_cons_succ, List.setIfInBounds_toArray, List.set_cons_zero, List.set_cons_succ]
      refine wpAnyH_take (i := 9) (v := ?vn8) rfl (by kernel_rfl) (by kernel_rfl) (by kernel_rfl) (fun _ _ _ h => h) (Or.inl ⟨by kernel_rfl, ?yn8⟩) hHn2 ?rn8
      case yn8 => (intro w' hS; (try dsimp only at hS); obtain ⟨s0, s1⟩ := hS; (try go_simp); (try with_reducible rfl))
      try simp only [Act.put, List.getElem_toArray, List.getElem_cons_zero, List.getElem_cons_succ, List.setIfInBounds_toArray, List.set_cons_zero, List.set_cons_succ]
      refine wpAnyH_take (i := 10) (v := ?vn9) rfl (by kernel_rfl) (by kernel_rfl) (by kernel_rfl) (fun _ _ _ h => h) (Or.inl ⟨by kernel_rfl, ?yn9⟩) hHn2 ?rn9
      case yn9 => (intro w' hS; (try dsimp only at hS); obtain ⟨s0, s1⟩ := hS; (try go_simp); (try with_reducible rfl))
      try simp only [Act.put, List.getElem_toArray, List.getElem_cons_zero, List.getElem_cons_succ, List.setIfInBounds_toArray, List.set_cons_zero, List.set_cons_succ]
      refine wpAnyH_take (i := 11) (v := ?vn10) rfl (by kernel_rfl) (by kernel_rfl) (by kernel_rfl) (fun _ _ _ h => h) (Or.inl ⟨by kernel_rfl, ?yn10⟩) hHn2 ?rn10
      case yn10 => (intro w' hS; (try dsimp only at hS); obtain ⟨s0, s1⟩ := hS; (try go_simp); (try with_reducible rfl))
      try simp only [Act.put, List.getElem_toArray, List.getElem_cons_zero, List.getElem_cons_succ, List.setIfInBounds_toArray, List.set_cons_zero, List.set_cons_succ]
      refine wpAnyH_take (i := 12) (v := ?vn11) rfl (by kernel_rfl) (by kernel_rfl) (by kernel_rfl) (fun _ _ _ h => h) (Or.inl ⟨by kernel_rfl, ?yn11⟩) hHn2 ?rn11
      case yn11 => (intro w' hS; (try dsimp only at hS); obtain ⟨s0, s1⟩ := hS; (try go_simp); (try with_reducible rfl))
      try simp only [Act.put, List.getElem_toArray, List.getElem_cons_zero, List.getElem_cons_succ, List.setIfInBounds_toArray, List.set_cons_zero, List.set_cons_succ]
      refine wpAnyH_take (i := 13) (v := ?vn12) rfl (by kernel_rfl) (by kernel_rfl) (by kernel_rfl) (fun _ _ _ h => h) (Or.inl ⟨by kernel_rfl, ?yn12⟩) hHn2 ?rn12
      case yn12 => (intro w' hS; (try dsimp only at hS); obtain ⟨s0, s1⟩ := hS; (try go_simp); (try with_reducible rfl))
      try simp only [Act.put, List.getElem_toArray, List.getElem_cons_zero, List.getElem_cons_succ, List.setIfInBounds_toArray, List.set_cons_zero, List.set_cons_succ]
      refine wpAnyH_take (i := 14) (v := ?vn13) rfl (by kernel_rfl) (by kernel_rfl) (by kernel_rfl) (fun _ _ _ h => h) (Or.inl ⟨by kernel_rfl, ?yn13⟩) hHn2 ?rn13
      case yn13 => (intro w' hS; (try dsimp only at hS); obtain ⟨s0, s1⟩ := hS; (try go_simp); (try with_reducible rfl))
      try simp only [Act.put, List.getElem_toArray, List.getElem_cons_zero, List.getElem_cons_succ, List.setIfInBounds_toArray, List.set_cons_zero, List.set_cons_succ]
      refine wpAnyH_ready (rs := [15]) (by kernel_rfl) (by simp) ?_
      refine AllReadyH.cons rfl (fun K hK => ?_) AllReadyH.nil
      go_simp
      refine (impl_FlashNew _).mono ?_
      rintro e u3 ⟨g, rfl, hOg, hc⟩
      have hv3 := hv2.trans (hc.mono hv2.size)
      clear hc
      go_wp2_with fail
      refine hK.out _ _ (⟨(hx.out _ hv3).x0, (hx.out _ hv3).x1⟩) (fun hHn3 => ?_)
      clear hK K
      try simp only [Act.put, List.getElem_toArray, List.getElem_cons_zero, List.getElem_cons_succ, List.setIfInBounds_toArray, List.set_cons_zero, List.set_cons_succ]
      refine wpAnyH_ready (rs := [16]) (by kernel_rfl) (by simp) ?_
      refine AllReadyH.cons rfl (fun K hK => ?_) AllReadyH.nil
      go_simp
      refine (laws_lqFlash A4 _ 4 4 c4 4 flashNew _ rfl rfl (by decide) (by decide) (hx.out _ hv3).fl hOg.fl).mono ?_
      rintro e u4 ⟨rfl, hc⟩
      have hv4 := hv3.trans (hc.mono hv3.size)
      clear hc
      go_wp2_with fail
      refine hK.out _ _ (⟨(hx.out _ hv4).x0, (hx.out _ hv4).x1⟩) (fun hHn4 => ?_)
      clear hK K
      try simp only [Act.put, List.getElem_toArray, List.getElem_cons_zero, List.getElem_cons_succ, List.setIfInBounds_toArray, List.set_cons_zero, List.set_cons_succ]
      refine wpAnyH_take (i := 17) (v := ?vn14) rfl (by kernel_rfl) (by kernel_rfl) (by kernel_rfl) (fun _ _ _ h => h) (Or.inl ⟨by kernel_rfl, ?yn14⟩) hHn4 ?rn14
      case yn14 => (intro w' hS; (try dsimp only at hS); obtain ⟨s0, s1⟩ := hS; (try go_simp); (try with_reducible rfl))
      try simp only [Act.put, List.getElem_toArray, List.getElem_cons_zero, List.getElem_cons_succ, List.setIfInBounds_toArray, List.set_cons_zero, List.set_cons_succ]
      refine wpAnyH_take (i := 18) (v := ?vn15) rfl (by kernel_rfl) (by kernel_rfl) (by kernel_rfl) (fun _ _ _ h => h) (Or.inl ⟨by kernel_rfl, ?yn15⟩) hHn4 ?rn15
      case yn15 => (intro w' hS; (try dsimp only at hS); obtain ⟨s0, s1⟩ := hS; (try go_simp); (try with_reducible rfl))
      try simp only [Act.put, List.getElem_toArray, List.getElem_cons_zero, List.getElem_cons_succ, List.setIfInBounds_toArray, List.set_cons_zero, List.set_cons_succ]
      refine wpAnyH_take (i := 19) (v := ?vn16) rfl (by kernel_rfl) (by kernel_rfl) (by kernel_rfl) (fun _ _ _ h => h) (Or.inl ⟨by kernel_rfl, ?yn16⟩) hHn4 ?rn16
      case yn16 => (intro w' hS; (try dsimp only at hS); obtain ⟨s0, s1⟩ := hS; (try go_simp); (try with_reducible rfl))
      try simp only [Act.put, List.getElem_toArray, List.getElem_cons_zero, List.getElem_cons_succ, List.setIfInBounds_toArray, List.set_cons_zero, List.set_cons_succ]
      refine wpAnyH_take (i := 20) (v := ?vn17) rfl (by kernel_rfl) (by kernel_rfl) (by kernel_rfl) (fun _ _ _ h => h) (Or.inl ⟨by kernel_rfl, ?yn17⟩) hHn4 ?rn17
      case yn17 => (intro w' hS; (try dsimp only at hS); obtain ⟨s0, s1⟩ := hS; (try go_simp); (try with_reducible rfl))
      try simp only [Act.put, List.getElem_toArray, List.getElem_cons_zero, List.getElem_cons_succ, List.setIfInBounds_toArray, List.set_cons_zero, List.set_cons_succ]
      refine wpAnyH_take (i := 21) (v := ?vn18) rfl (by kernel_rfl) (by kernel_rfl) (by kernel_rfl) (fun _ _ _ h => h) (Or.inl ⟨by kernel_rfl, ?yn18⟩) hHn4 ?rn18
      case yn18 => (intro w' hS; (try dsimp only at hS); obtain ⟨s0, s1⟩ := hS; (try go_simp); (try with_reducible rfl))
      try simp only [Act.put, List.getElem_toArray, List.getElem_cons_zero, List.getElem_cons_succ, List.setIfInBounds_toArray, List.set_cons_zero, List.set_cons_succ]
      refine wpAnyH_take (i := 22) (v := ?vn19) rfl (by kernel_rfl) (by kernel_rfl) (by kernel_rfl) (fun _ _ _ h => h) (Or.inl ⟨by kernel_rfl, ?yn19⟩) hHn4 ?rn19
      case yn19 => (intro w' hS; (try dsimp only at hS); obtain ⟨s0, s1⟩ := hS; (try go_simp); (try with_reducible rfl))
      try simp only [Act.put, List.getElem_toArray, List.getElem_cons_zero, List.getElem_cons_succ, List.setIfInBounds_toArray, List.set_cons_zero, List.set_cons_succ]
      refine wpAnyH_take (i := 23) (v := ?vn20) rfl (by kernel_rfl) (by kernel_rfl) (by kernel_rfl) (fun _ _ _ h => h) (Or.inl ⟨by kernel_rfl, ?yn20⟩) hHn4 ?rn20
      case yn20 => (intro w' hS; (try dsimp only at hS); obtain ⟨s0, s1⟩ := hS; (try go_simp); (try with_reducible rfl))
      try simp only [Act.put, List.getElem_toArray, List.getElem_cons_zero, List.getElem_cons_succ, List.setIfInBounds_toArray, List.set_cons_zero, List.set_cons_succ]
      refine wpAnyH_take (i := 24) (v := ?vn21) rfl (by kernel_rfl) (by kernel_rfl) (by kernel_rfl) (fun _ _ _ h => h) (Or.inl ⟨by kernel_rfl, ?yn21⟩) hHn4 ?rn21
      case yn21 => (intro w' hS; (try dsimp only at hS); obtain ⟨s0, s1⟩ := hS; (try go_simp); (try with_reducible rfl))
      try simp only [Act.put, List.getElem_toArray, List.getElem_cons_zero, List.getElem_cons_succ, List.setIfInBounds_toArray, List.set_cons_zero, List.set_cons_succ]
      refine wpAnyH_done (by kernel_rfl) ?_ _
      have hBf := hBd.trans (hv4.mono (by have h := hBd.size; exact h))
      go_wp2
      go_ret
      exact ⟨rfl, hBf⟩
end Go.Proofs.Ytfkjhnfbajflaaa
