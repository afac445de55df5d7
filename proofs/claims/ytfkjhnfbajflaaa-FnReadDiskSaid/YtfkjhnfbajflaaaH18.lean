/- Walks: a drawn store. -/
import Derived.Test.YtfkjhnfbajflaaaG19
import Derived.Test.YtfkjhnfbajflaaaH16
import Derived.Deep.RegionHeld3
namespace Go.Proofs.Ytfkjhnfbajflaaa
set_option linter.unusedVariables false
set_option linter.unusedSimpArgs false
open Go.RowKit Go.Maps
set_option maxHeartbeats 400000
def stSmall (s : St) : Prop := flSmall s.flash ∧ s.disk.length ≤ 6
theorem stSmall_of {s : St} (h : stFine s) : stSmall s := ⟨flSmall_of h.1, by rw [h.2.1]; omega⟩
/-- what a draw of a store answers -/
def StorePost (B R m : Nat) (w : World) (e : Ending) (w' : World) : Prop :=
  ∃ (A D : Option Addr) (c d : Nat) (s : St), e = .returned (.agg #[.slice A s.flash.length c, .slice D s.disk.length d]) ∧ stSmall s ∧ OSt w' w.heap.size w'.heap.size A s.flash D s.disk ∧ Rd w' B R (m + 1200) ∧ Agr (· = R) w w'
theorem OSt.putDisk {w w' : World} {lo hi db dO k : Nat} {A : Option Addr} {f : List Bk} {xs : List Int} {v : Int} (h : OSt w lo hi A f (some ⟨db, dO, none⟩) xs) (hk : k < xs.length) (hW : Wrote w w' db (dO + k) [.int .i64 v]) : OSt w' lo hi A f (some ⟨db, dO, none⟩) (xs.set k v) := by
  obtain ⟨hs, h1, h2, h3, h4⟩ := h
  have hd := h4 db (blk_some.2 rfl)
  refine ⟨hs, h1.keep fun b hb hl => hW.block b (fun e => ?_), h2, h3.putInt hk hW, h4⟩
  subst e
  rcases hb with hb | ⟨x, hx, hb⟩
  · exact hd.2.2.1 hb
  · obtain ⟨i, hi'⟩ := List.getElem?_of_mem hx
    exact hd.2.2.2 i x hi' hb
theorem OSt.agr {w w' : World} {lo hi : Nat} {A D : Option Addr} {f : List Bk} {xs : List Int} {S : Nat → Prop} (h : OSt w lo hi A f D xs) (ha : Agr S w w') (hS : ∀ b, lo ≤ b → b < hi → ¬ S b) : OSt w' lo hi A f D xs := h.keep fun b h1 h2 hl => ha.block b hl (hS b h1 h2)
def worn200 (b : Bk) : Bk := { b with worn := 200 }
def wornTo (f : List Bk) (k : Nat) : List Bk := (f.take k).map worn200 ++ f.drop k
theorem wornTo_len (f : List Bk) (k : Nat) : (wornTo f k).length = f.length := by unfold wornTo; rw [List.length_append, List.length_map, List.length_take, List.length_drop]; omega
theorem wornTo_get {f : List Bk} {k : Nat} : (wornTo f k)[k]? = f[k]? := by
  unfold wornTo
  by_cases h : k < f.length
  · rw [List.getElem?_append_right (by simp; omega), List.length_map, List.length_take, List.getElem?_drop]
    congr 1; omega
  · rw [List.getElem?_eq_none (by simp; omega), List.getElem?_eq_none (by omega)]
theorem wornTo_step {f : List Bk} {k : Nat} {b : Bk} (h : f[k]? = some b) : (wornTo f k).set k { b with worn := 200 } = wornTo f (k + 1) := by
  obtain ⟨hl, rfl⟩ := List.getElem?_eq_some_iff.1 h
  unfold wornTo
  rw [List.set_append_right _ _ (by simp; omega), List.length_map, List.length_take, show k - min k f.length = 0 by omega, List.drop_eq_getElem_cons hl, List.set_cons_zero, List.take_succ_eq_append_getElem hl, List.map_append, List.append_assoc]
  rfl
theorem wornTo_small {f : List Bk} (h : flSmall f) (k : Nat) : flSmall (wornTo f k) := by
  refine ⟨by rw [wornTo_len]; exact h.1, by rw [wornTo_len]; exact h.2.1, fun b hb => ?_⟩
  unfold wornTo at hb
  rcases List.mem_append.1 hb with hb | hb
  · obtain ⟨c, hc, rfl⟩ := List.mem_map.1 hb
    have := h.2.2 c (List.mem_of_mem_take hc)
    exact ⟨this.1, ⟨by show (-1 : Int) ≤ 200; omega, by show (200 : Int) ≤ 1000; omega⟩, this.2.2⟩
  · exact h.2.2 b (List.mem_of_mem_drop hb)
/-- the result laid -/
theorem laid_cells {w : World} {N : Nat} {u0 u1 : Value} (q0 : w.cell? ⟨N, 0, none⟩ = some u0) (q1 : w.cell? ⟨N, 1, none⟩ = some u1) (v0 v1 : Value) : Wrote w ((w.setCell ⟨N, 0, none⟩ v0).setCell ⟨N, 1, none⟩ v1) N 0 [v0, v1] :=
  wrote_setRow N [v0, v1] 0 w (fun j hj => by
    match j, hj with
    | 0, _ => exact ⟨_, q0⟩
    | 1, _ => exact ⟨_, q1⟩)
set_option maxHeartbeats 8000000 in
set_option maxRecDepth 100000 in
theorem spec_l71Store (B R m : Nat) (w : World) (hm : m ≤ 790000) (hR : Rd w B R m) :
    Calls Try.prog 52 #[.pointer (some ⟨R, 0, none⟩)] w (StorePost B R m w) := by
  have hRl := hR.lt
  have hR0 := hR.alloc (.cells #[.slice none 0 0, .slice none 0 0] 39)
  have hq := Row.new w #[.slice none 0 0, .slice none 0 0] 39
  obtain ⟨q0, f0⟩ := hq.at0 (j := 0) rfl
  obtain ⟨q1, f1⟩ := hq.at0 (j := 1) rfl
  have hA0 : Agr (· = R) w (w.alloc (.cells #[.slice none 0 0, .slice none 0 0] 39)) := (Agr.refl _ _).alloc _
  have hs0 : (w.alloc (.cells #[.slice none 0 0, .slice none 0 0] 39)).heap.size = w.heap.size + 1 := by simp
  clear hq
  go_enter Try.func52, Try.ntmps52
  go_wp2_with fail
  refine (spec_l71Play B R m _ (by omega) hR0).mono ?_
  rintro e w1 ⟨v, A, D, c, lo, hi, s, xs, rfl, hlo, hhi, hc, hO, hst, _, _, _, hR1, hA1⟩
  rw [hs0] at hlo
  have hs1 := hA1.size
  rw [hs0] at hs1
  replace q0 := (hA1.cell (b := w.heap.size) (by omega) (by omega) 0).trans q0
  replace q1 := (hA1.cell (b := w.heap.size) (by omega) (by omega) 1).trans q1
  replace f0 := (hA1.fz (b := w.heap.size) (by omega) (by omega) 0).trans f0
  replace f1 := (hA1.fz (b := w.heap.size) (by omega) (by omega) 1).trans f1
  replace hA1 := hA0.trans hA1 (fun _ _ h => h)
  obtain ⟨hlF, hlD⟩ : s.flash.length = 4 ∧ s.disk.length = 6 := ⟨hst.1.1, hst.2.1⟩
  have HLF := Lib.hid hlF
  have HLD := Lib.hid hlD
  have hsm := Lib.hid (stSmall_of hst)
  obtain ⟨db, dO, rfl⟩ := hO.disk.addr (ints_ne' (by intro e; rw [e] at hlD; simp at hlD))
  have hdb : lo ≤ db ∧ db < hi := by obtain ⟨_, _, _, _, h4⟩ := hO; have := h4 db (blk_some.2 rfl); exact ⟨this.1, this.2.1⟩
  clear hA0 hs0 hlF hlD hst hR0 hR
  obtain ⟨W, hW⟩ : ∃ W, w1.alloc (.cells #[.slice A 4 c, .slice (some ⟨db, dO, none⟩) 6 6] 39) = W := ⟨_, rfl⟩
  have hBW : Below w1.heap.size w1 W := by rw [← hW]; (repeat (first | (with_reducible exact Below.refl _ _) | (with_reducible assumption) | (refine Below.setCell ?_ (by first | omega | exact hB.size | exact hb.size | (have h := hB.size; simp; omega) | (have h := hb.size; simp; omega) | (simp; omega) | simp) _) | (refine Below.alloc ?_ (by first | omega | exact hB.size | exact hb.size | (have h := hB.size; simp; omega) | (have h := hb.size; simp; omega) | (simp; omega) | simp) _) | (refine Below.drew ?_)))
  have hWs : W.heap.size = w1.heap.size + 1 := by rw [← hW]; simp
  have hM := Row.new w1 #[.slice A 4 c, .slice (some ⟨db, dO, none⟩) 6 6] 39
  rw [hW] at hM
  obtain ⟨b0, g0⟩ := hM.at0 (j := 0) rfl
  obtain ⟨b1, g1⟩ := hM.at0 (j := 1) rfl
  replace q0 := (hBW.cell (p := ⟨w.heap.size, 0, none⟩) (by show w.heap.size < _; omega)).trans q0
  replace q1 := (hBW.cell (p := ⟨w.heap.size, 1, none⟩) (by show w.heap.size < _; omega)).trans q1
  replace f0 := (hBW.frozen (p := ⟨w.heap.size, 0, none⟩) (by show w.heap.size < _; omega)).trans f0
  replace f1 := (hBW.frozen (p := ⟨w.heap.size, 1, none⟩) (by show w.heap.size < _; omega)).trans f1
  replace hR1 := hR1.below hBW (Nat.le_refl _)
  replace hO := hO.below hBW (Nat.le_refl _)
  replace hA1 : Agr (· = R) w W := hA1.trans (Agr.of_below hBW : Agr (fun _ => False) w1 W) (fun _ _ h => h.elim)
  obtain ⟨n1, hn1⟩ : ∃ n1, w1.heap.size = n1 := ⟨_, rfl⟩
  rw [hn1] at hs1 hhi b0 b1 g0 g1 hWs
  have HW := Lib.hid hW
  clear hW hM hBW
  go_wp2_with fail
  (try rw [HW.out])
  (try rw [hn1])
  refine (spec_pickI 30 30 B R (m + 500) _ rfl (by omega) (by omega) (by omega) hR1).mono ?_
  rintro e w2 ⟨k, rfl, hk, hR2, hA2⟩
  (try simp only [hn1])
  have hs2 := hA2.size
  replace q0 := (hA2.cell (b := w.heap.size) (by omega) (by omega) 0).trans q0
  replace q1 := (hA2.cell (b := w.heap.size) (by omega) (by omega) 1).trans q1
  replace f0 := (hA2.fz (b := w.heap.size) (by omega) (by omega) 0).trans f0
  replace f1 := (hA2.fz (b := w.heap.size) (by omega) (by omega) 1).trans f1
  replace b0 := (hA2.cell (b := n1) (by omega) (by omega) 0).trans b0
  replace b1 := (hA2.cell (b := n1) (by omega) (by omega) 1).trans b1
  replace g0 := (hA2.fz (b := n1) (by omega) (by omega) 0).trans g0
  replace g1 := (hA2.fz (b := n1) (by omega) (by omega) 1).trans g1
  replace hO := hO.agr hA2 (fun b h1 h2 h3 => by omega)
  replace hA2 := hA1.trans hA2 (fun _ _ h => h)
  clear hA1 hR1 HW
  have hs2' : n1 < w2.heap.size := by omega
  clear hs2 hWs hn1
  by_cases h0 : k = 0
  · have t0 : ((k : Int) == 0) = true := by subst h0; rfl
    clear h0
    have hR2d := hR2.drew
    have hA2d := hA2.drew
    have hOd := hO.drew
    have P6 := Lib.hid (fun (p : Nat) (X : World) (h : p ≤ 1000000) (hr : Rd X B R p) => spec_pickI 6 6 B R p X rfl (by omega) (by omega) h hr)
    have P4 := Lib.hid (fun (p : Nat) (X : World) (h : p ≤ 1000000) (hr : Rd X B R p) => spec_pickI 4 4 B R p X rfl (by omega) (by omega) h hr)
    have HD := Lib.hid (fun (X : World) (h : Agr (· = R) w2.drew X) => (show X.cell? ⟨n1, 1, none⟩ = some (.slice (some ⟨db, dO, none⟩) 6 6) from (h.cell (b := n1) hs2' (by omega) 1).trans b1))
    have hZ := Lib.hid (fun (X : World) => Row.new X #[.int .i64 (-1), .int .i64 10, .int .i64 0, .int .i64 5] 3)
    have hag0 : Agr (· = R) w2.drew w2.drew := Agr.refl _ _
    have hd2 : w2.drew.heap.size = w2.heap.size := rfl
    go_wp2
    refine wp_region_held_drew (S := fun X => X.cell? ⟨n1, 1, none⟩ = some (.slice (some ⟨db, dO, none⟩) 6 6)) (by kernel_rfl) (HD.out _ hag0) (fun hHeld0 => ?_)
    refine wpAnyH_take (i := 0) (v := ?vz1) rfl (by kernel_rfl) (by kernel_rfl) (by kernel_rfl) (fun _ _ _ h => h) (Or.inl ⟨by kernel_rfl, ?yz1⟩) hHeld0 ?rz1
    case yz1 => (intro w' hS; (try dsimp only at hS); obtain s0 := hS; (try go_simp); (try with_reducible rfl))
    try simp only [Act.put, List.getElem_toArray, List.getElem_cons_zero, List.getElem_cons_succ, List.setIfInBounds_toArray, List.set_cons_zero, List.set_cons_succ]
    refine wpAnyH_take (i := 1) (v := ?vz2) rfl (by kernel_rfl) (by kernel_rfl) (by kernel_rfl) (fun _ _ _ h => h) (Or.inl ⟨by kernel_rfl, ?yz2⟩) hHeld0 ?rz2
    case yz2 => (intro w' hS; (try dsimp only at hS); obtain s0 := hS; (try go_simp); (try with_reducible rfl))
    try simp only [Act.put, List.getElem_toArray, List.getElem_cons_zero, List.getElem_cons_succ, List.setIfInBounds_toArray, List.set_cons_zero, List.set_cons_succ]
    refine wpAnyH_take (i := 2) (v := ?vz3) rfl (by kernel_rfl) (by kernel_rfl) (by kernel_rfl) (fun _ _ _ h => h) (Or.inl ⟨by kernel_rfl, ?yz3⟩) hHeld0 ?rz3
    case yz3 => (intro w' hS; (try dsimp only at hS); obtain s0 := hS; (try go_simp); (try with_reducible rfl))
    try simp only [Act.put, List.getElem_toArray, List.getElem_cons_zero, List.getElem_cons_succ, List.setIfInBounds_toArray, List.set_cons_zero, List.set_cons_succ]
    refine wpAnyH_take (i := 5) (v := ?vz4) rfl (by kernel_rfl) (by kernel_rfl) (by kernel_rfl) (fun _ _ _ h => h) (Or.inl ⟨by kernel_rfl, ?yz4⟩) hHeld0 ?rz4
    case yz4 => (intro w' hS; (try dsimp only at hS); obtain s0 := hS; (try go_simp); (try with_reducible rfl))
    try simp only [Act.put, List.getElem_toArray, List.getElem_cons_zero, List.getElem_cons_succ, List.setIfInBounds_toArray, List.set_cons_zero, List.set_cons_succ]
    refine wpAnyH_ready (rs := [3, 4]) (by kernel_rfl) (by simp) ?_
    refine AllReadyH.cons rfl (fun K hK => ?_) (AllReadyH.cons rfl (fun K hK => ?_) AllReadyH.nil)
    · go_simp
      refine (P6.out ((m + 501)) _ (by omega) hR2d).mono ?_
      rintro e wk3 ⟨k3, rfl, hk3, hRk3, hAk3⟩
      have hk3' : (k3 : Int) < 6 := by omega
      have hagk3 := hag0.trans hAk3 (fun _ _ h => h)
      go_wp2_with fail
      refine hK.out _ _ (HD.out _ hagk3) (fun hHk3 => ?_)
      clear hK K
      try simp only [Act.put, List.getElem_toArray, List.getElem_cons_zero, List.getElem_cons_succ, List.setIfInBounds_toArray, List.set_cons_zero, List.set_cons_succ]
      refine wpAnyH_ready (rs := [4, 6]) (by kernel_rfl) (by simp) ?_
      refine AllReadyH.cons rfl (fun K hK => ?_) (AllReadyH.cons rfl (fun K hK => ?_) AllReadyH.nil)
      · go_simp
        have hagb := hagk3.alloc (.cells #[.int .i64 (-1), .int .i64 10, .int .i64 0, .int .i64 5] 3)
        have hRb := hRk3.alloc (.cells #[.int .i64 (-1), .int .i64 10, .int .i64 0, .int .i64 5] 3)
        have hbxR : R < (wk3).heap.size := by have := hagk3.size; omega
        have hBt := fun (j : Nat) (u : Value) (hu : ([Value.int .i64 (-1), Value.int .i64 10, Value.int .i64 0, Value.int .i64 5])[j]? = some u) => ((hZ.out (wk3)).at0 hu).1
        refine hK.out _ _ (HD.out _ hagb) (fun hHb => ?_)
        clear hK K
        try simp only [Act.put, List.getElem_toArray, List.getElem_cons_zero, List.getElem_cons_succ, List.setIfInBounds_toArray, List.set_cons_zero, List.set_cons_succ]
        refine wpAnyH_ready (rs := [6]) (by kernel_rfl) (by simp) ?_
        refine AllReadyH.cons rfl (fun K hK => ?_) AllReadyH.nil
        go_simp
        refine (P4.out ((m + 501) + 1) _ (by omega) hRb).mono ?_
        rintro e wk4 ⟨k4, rfl, hk4, hRk4, hAk4⟩
        have hk4' : (k4 : Int) < 4 := by omega
        have hagk4 := hagb.trans hAk4 (fun _ _ h => h)
        replace hBt := fun (j : Nat) (u : Value) (hu : ([Value.int .i64 (-1), Value.int .i64 10, Value.int .i64 0, Value.int .i64 5])[j]? = some u) => (hAk4.cell (b := (wk3).heap.size) (by have := lt_of_cell (hBt 0 _ rfl); exact this) (by omega) j).trans (hBt j u hu)
        go_wp2_with fail
        refine hK.out _ _ (HD.out _ hagk4) (fun hHk4 => ?_)
        clear hK K
        try simp only [Act.put, List.getElem_toArray, List.getElem_cons_zero, List.getElem_cons_succ, List.setIfInBounds_toArray, List.set_cons_zero, List.set_cons_succ]
        obtain ⟨v4, hv, hv1, hv2⟩ : ∃ v : Int, ([Value.int .i64 (-1), Value.int .i64 10, Value.int .i64 0, Value.int .i64 5])[k4]? = some (.int .i64 v) ∧ -1 ≤ v ∧ v ≤ 1000 := by
          rcases (by omega : k4 = 0 ∨ k4 = 1 ∨ k4 = 2 ∨ k4 = 3) with rfl | rfl | rfl | rfl <;> exact ⟨_, rfl, by omega, by omega⟩
        have z0 : (wk4).cell? ⟨(wk3).heap.size, k4, none⟩ = some (.int .i64 v4) := hBt _ _ hv
        have hve : ∀ h : k4 < ([Value.int .i64 (-1), Value.int .i64 10, Value.int .i64 0, Value.int .i64 5]).length, ([Value.int .i64 (-1), Value.int .i64 10, Value.int .i64 0, Value.int .i64 5])[k4]'h = .int .i64 v4 := fun h => (List.getElem?_eq_some_iff.1 hv).2
        refine wpAnyH_take (i := 7) (v := ?vz5) rfl (by kernel_rfl) (by kernel_rfl) (by kernel_rfl) (fun _ _ _ h => h) (Or.inl ⟨by kernel_rfl, ?yz5⟩) hHk4 ?rz5
        case yz5 => (intro w' hS; (try dsimp only at hS); obtain s0 := hS; (try go_simp); (try with_reducible rfl))
        try simp only [Act.put, List.getElem_toArray, List.getElem_cons_zero, List.getElem_cons_succ, List.setIfInBounds_toArray, List.set_cons_zero, List.set_cons_succ]
        refine wpAnyH_ready (rs := [8]) (by kernel_rfl) (by simp) ?_
        refine AllReadyH.cons rfl (fun K hK => ?_) AllReadyH.nil
        go_simp
        refine hK.out _ _ (HD.out _ hagk4) (fun hHz => ?_)
        clear hK K
        try simp only [Act.put, List.getElem_toArray, List.getElem_cons_zero, List.getElem_cons_succ, List.setIfInBounds_toArray, List.set_cons_zero, List.set_cons_succ]
        refine wpAnyH_take (i := 9) (v := ?vz6) rfl (by kernel_rfl) (by kernel_rfl) (by kernel_rfl) (fun _ _ _ h => h) (Or.inl ⟨by kernel_rfl, ?yz6⟩) hHz ?rz6
        case yz6 => (intro w' hS; (try dsimp only at hS); obtain s0 := hS; (try go_simp); (try with_reducible rfl))
        try simp only [Act.put, List.getElem_toArray, List.getElem_cons_zero, List.getElem_cons_succ, List.setIfInBounds_toArray, List.set_cons_zero, List.set_cons_succ]
        have hOe := hOd.agr hagk4 (fun b h1 h2 h3 => by omega)
        obtain ⟨q5, hq5⟩ := get_some (l := s.disk) (k := k3) (by rw [HLD.out]; exact hk3)
        obtain ⟨d0, d1⟩ := hOe.disk.int_ hq5
        have hWd := wrote_one d0 (.int .i64 v4)
        have hOg := hOe.putDisk (k := k3) (v := v4) (by rw [HLD.out]; exact hk3) hWd
        have hAg2 := (hA2d.trans hagk4 (fun _ _ h => h)).trans (S' := (· = db)) hWd.agr (fun b hb e => by have := hdb; omega)
        have hRg := (hRk4.agr hWd.agr (by omega) (fun b hb e => by have := hRk4.le; omega))
        have hsX := hagk4.size
        have hsY := hWd.size
        refine wpAnyH_ready (rs := [10]) (by kernel_rfl) (by simp) ?_
        refine AllReadyH.cons rfl (fun K hK => ?_) AllReadyH.nil
        go_simp
        refine hK.out _ _ (by first | exact (hWd.agr.cell (b := n1) (by have := hagk4.size; omega) (by omega) 1).trans (HD.out _ hagk4)) (fun hHy => ?_)
        clear hK K
        try simp only [Act.put, List.getElem_toArray, List.getElem_cons_zero, List.getElem_cons_succ, List.setIfInBounds_toArray, List.set_cons_zero, List.set_cons_succ]
        replace q0 := (hWd.agr.cell (b := w.heap.size) (by omega) (by omega) 0).trans ((hagk4.cell (b := w.heap.size) (by show _ < w2.heap.size; omega) (by omega) 0).trans q0)
        replace q1 := (hWd.agr.cell (b := w.heap.size) (by omega) (by omega) 1).trans ((hagk4.cell (b := w.heap.size) (by show _ < w2.heap.size; omega) (by omega) 1).trans q1)
        replace f0 := (hWd.agr.fz (b := w.heap.size) (by omega) (by omega) 0).trans ((hagk4.fz (b := w.heap.size) (by show _ < w2.heap.size; omega) (by omega) 0).trans f0)
        replace f1 := (hWd.agr.fz (b := w.heap.size) (by omega) (by omega) 1).trans ((hagk4.fz (b := w.heap.size) (by show _ < w2.heap.size; omega) (by omega) 1).trans f1)
        replace b0 := (hWd.agr.cell (b := n1) (by omega) (by omega) 0).trans ((hagk4.cell (b := n1) (by show _ < w2.heap.size; omega) (by omega) 0).trans b0)
        replace b1 := (hWd.agr.cell (b := n1) (by omega) (by omega) 1).trans ((hagk4.cell (b := n1) (by show _ < w2.heap.size; omega) (by omega) 1).trans b1)
        have hsm2 : stSmall ⟨s.flash, s.disk.set k3 v4⟩ := ⟨hsm.out.1, by rw [List.length_set, HLD.out]; omega⟩
        replace hsm2 := Lib.hid hsm2
        clear hWd hOe hOd z0 d0 d1 hq5 hBt hv
        refine wpAnyH_done (by kernel_rfl) ?_ _
        go_wp2
        have hL := laid_cells q0 q1 (Value.slice A 4 c) (Value.slice (some ⟨db, dO, none⟩) 6 6)
        have hsz := hL.size
        have hOf := hOg.agr hL.agr (fun b h1 h2 h3 => by omega)
        have hRf := (hRg.agr hL.agr (by omega) (fun b hb e => by have := hRg.le; omega)).mono (n := m + 1200) (by omega)
        have hAf := hAg2.trans (S' := (· = w.heap.size)) hL.agr (fun b hb e => by omega)
        have r0 := hL.new_ 0 _ rfl
        have r1 := hL.new_ 1 _ rfl
        clear hL
        go_wp2
        refine bodyPost_ret (v := .agg #[Value.slice A 4 c, Value.slice (some ⟨db, dO, none⟩) 6 6]) (by simp [results, Try.results52, go_sem, r0, r1, q0, q1]) rfl ⟨A, (some ⟨db, dO, none⟩), c, 6, ⟨s.flash, s.disk.set k3 v4⟩, ?_, hsm2.out, hOf.mono (by omega) (by omega), hRf, hAf⟩
        · rw [List.length_set, HLF.out, HLD.out]
      · go_simp
        refine (P4.out ((m + 501) + 1) _ (by omega) hRk3).mono ?_
        rintro e wk4 ⟨k4, rfl, hk4, hRk4, hAk4⟩
        have hk4' : (k4 : Int) < 4 := by omega
        have hagk4 := hagk3.trans hAk4 (fun _ _ h => h)
        go_wp2_with fail
        refine hK.out _ _ (HD.out _ hagk4) (fun hHk4 => ?_)
        clear hK K
        try simp only [Act.put, List.getElem_toArray, List.getElem_cons_zero, List.getElem_cons_succ, List.setIfInBounds_toArray, List.set_cons_zero, List.set_cons_succ]
        refine wpAnyH_ready (rs := [4]) (by kernel_rfl) (by simp) ?_
        refine AllReadyH.cons rfl (fun K hK => ?_) AllReadyH.nil
        go_simp
        have hagb := hagk4.alloc (.cells #[.int .i64 (-1), .int .i64 10, .int .i64 0, .int .i64 5] 3)
        have hRb := hRk4.alloc (.cells #[.int .i64 (-1), .int .i64 10, .int .i64 0, .int .i64 5] 3)
        have hbxR : R < (wk4).heap.size := by have := hagk4.size; omega
        have hBt := fun (j : Nat) (u : Value) (hu : ([Value.int .i64 (-1), Value.int .i64 10, Value.int .i64 0, Value.int .i64 5])[j]? = some u) => ((hZ.out (wk4)).at0 hu).1
        refine hK.out _ _ (HD.out _ hagb) (fun hHb => ?_)
        clear hK K
        try simp only [Act.put, List.getElem_toArray, List.getElem_cons_zero, List.getElem_cons_succ, List.setIfInBounds_toArray, List.set_cons_zero, List.set_cons_succ]
        obtain ⟨v4, hv, hv1, hv2⟩ : ∃ v : Int, ([Value.int .i64 (-1), Value.int .i64 10, Value.int .i64 0, Value.int .i64 5])[k4]? = some (.int .i64 v) ∧ -1 ≤ v ∧ v ≤ 1000 := by
          rcases (by omega : k4 = 0 ∨ k4 = 1 ∨ k4 = 2 ∨ k4 = 3) with rfl | rfl | rfl | rfl <;> exact ⟨_, rfl, by omega, by omega⟩
        have z0 : ((wk4).alloc (.cells #[.int .i64 (-1), .int .i64 10, .int .i64 0, .int .i64 5] 3)).cell? ⟨(wk4).heap.size, k4, none⟩ = some (.int .i64 v4) := hBt _ _ hv
        have hve : ∀ h : k4 < ([Value.int .i64 (-1), Value.int .i64 10, Value.int .i64 0, Value.int .i64 5]).length, ([Value.int .i64 (-1), Value.int .i64 10, Value.int .i64 0, Value.int .i64 5])[k4]'h = .int .i64 v4 := fun h => (List.getElem?_eq_some_iff.1 hv).2
        refine wpAnyH_take (i := 7) (v := ?vz7) rfl (by kernel_rfl) (by kernel_rfl) (by kernel_rfl) (fun _ _ _ h => h) (Or.inl ⟨by kernel_rfl, ?yz7⟩) hHb ?rz7
        case yz7 => (intro w' hS; (try dsimp only at hS); obtain s0 := hS; (try go_simp); (try with_reducible rfl))
        try simp only [Act.put, List.getElem_toArray, List.getElem_cons_zero, List.getElem_cons_succ, List.setIfInBounds_toArray, List.set_cons_zero, List.set_cons_succ]
        refine wpAnyH_ready (rs := [8]) (by kernel_rfl) (by simp) ?_
        refine AllReadyH.cons rfl (fun K hK => ?_) AllReadyH.nil
        go_simp
        refine hK.out _ _ (HD.out _ hagb) (fun hHz => ?_)
        clear hK K
        try simp only [Act.put, List.getElem_toArray, List.getElem_cons_zero, List.getElem_cons_succ, List.setIfInBounds_toArray, List.set_cons_zero, List.set_cons_succ]
        refine wpAnyH_take (i := 9) (v := ?vz8) rfl (by kernel_rfl) (by kernel_rfl) (by kernel_rfl) (fun _ _ _ h => h) (Or.inl ⟨by kernel_rfl, ?yz8⟩) hHz ?rz8
        case yz8 => (intro w' hS; (try dsimp only at hS); obtain s0 := hS; (try go_simp); (try with_reducible rfl))
        try simp only [Act.put, List.getElem_toArray, List.getElem_cons_zero, List.getElem_cons_succ, List.setIfInBounds_toArray, List.set_cons_zero, List.set_cons_succ]
        have hOe := hOd.agr hagb (fun b h1 h2 h3 => by omega)
        obtain ⟨q5, hq5⟩ := get_some (l := s.disk) (k := k3) (by rw [HLD.out]; exact hk3)
        obtain ⟨d0, d1⟩ := hOe.disk.int_ hq5
        have hWd := wrote_one d0 (.int .i64 v4)
        have hOg := hOe.putDisk (k := k3) (v := v4) (by rw [HLD.out]; exact hk3) hWd
        have hAg2 := (hA2d.trans hagb (fun _ _ h => h)).trans (S' := (· = db)) hWd.agr (fun b hb e => by have := hdb; omega)
        have hRg := (hRb.agr hWd.agr (by omega) (fun b hb e => by have := hRb.le; omega))
        have hsX := hagb.size
        have hsY := hWd.size
        refine wpAnyH_ready (rs := [10]) (by kernel_rfl) (by simp) ?_
        refine AllReadyH.cons rfl (fun K hK => ?_) AllReadyH.nil
        go_simp
        refine hK.out _ _ (by first | exact (hWd.agr.cell (b := n1) (by have := hagb.size; omega) (by omega) 1).trans (HD.out _ hagb)) (fun hHy => ?_)
        clear hK K
        try simp only [Act.put, List.getElem_toArray, List.getElem_cons_zero, List.getElem_cons_succ, List.setIfInBounds_toArray, List.set_cons_zero, List.set_cons_succ]
        replace q0 := (hWd.agr.cell (b := w.heap.size) (by omega) (by omega) 0).trans ((hagb.cell (b := w.heap.size) (by show _ < w2.heap.size; omega) (by omega) 0).trans q0)
        replace q1 := (hWd.agr.cell (b := w.heap.size) (by omega) (by omega) 1).trans ((hagb.cell (b := w.heap.size) (by show _ < w2.heap.size; omega) (by omega) 1).trans q1)
        replace f0 := (hWd.agr.fz (b := w.heap.size) (by omega) (by omega) 0).trans ((hagb.fz (b := w.heap.size) (by show _ < w2.heap.size; omega) (by omega) 0).trans f0)
        replace f1 := (hWd.agr.fz (b := w.heap.size) (by omega) (by omega) 1).trans ((hagb.fz (b := w.heap.size) (by show _ < w2.heap.size; omega) (by omega) 1).trans f1)
        replace b0 := (hWd.agr.cell (b := n1) (by omega) (by omega) 0).trans ((hagb.cell (b := n1) (by show _ < w2.heap.size; omega) (by omega) 0).trans b0)
        replace b1 := (hWd.agr.cell (b := n1) (by omega) (by omega) 1).trans ((hagb.cell (b := n1) (by show _ < w2.heap.size; omega) (by omega) 1).trans b1)
        have hsm2 : stSmall ⟨s.flash, s.disk.set k3 v4⟩ := ⟨hsm.out.1, by rw [List.length_set, HLD.out]; omega⟩
        replace hsm2 := Lib.hid hsm2
        clear hWd hOe hOd z0 d0 d1 hq5 hBt hv
        refine wpAnyH_done (by kernel_rfl) ?_ _
        go_wp2
        have hL := laid_cells q0 q1 (Value.slice A 4 c) (Value.slice (some ⟨db, dO, none⟩) 6 6)
        have hsz := hL.size
        have hOf := hOg.agr hL.agr (fun b h1 h2 h3 => by omega)
        have hRf := (hRg.agr hL.agr (by omega) (fun b hb e => by have := hRg.le; omega)).mono (n := m + 1200) (by omega)
        have hAf := hAg2.trans (S' := (· = w.heap.size)) hL.agr (fun b hb e => by omega)
        have r0 := hL.new_ 0 _ rfl
        have r1 := hL.new_ 1 _ rfl
        clear hL
        go_wp2
        refine bodyPost_ret (v := .agg #[Value.slice A 4 c, Value.slice (some ⟨db, dO, none⟩) 6 6]) (by simp [results, Try.results52, go_sem, r0, r1, q0, q1]) rfl ⟨A, (some ⟨db, dO, none⟩), c, 6, ⟨s.flash, s.disk.set k3 v4⟩, ?_, hsm2.out, hOf.mono (by omega) (by omega), hRf, hAf⟩
        · rw [List.length_set, HLF.out, HLD.out]
    · go_simp
      have hagb := hag0.alloc (.cells #[.int .i64 (-1), .int .i64 10, .int .i64 0, .int .i64 5] 3)
      have hRb := hR2d.alloc (.cells #[.int .i64 (-1), .int .i64 10, .int .i64 0, .int .i64 5] 3)
      have hbxR : R < (w2.drew).heap.size := by have := hag0.size; omega
      have hBt := fun (j : Nat) (u : Value) (hu : ([Value.int .i64 (-1), Value.int .i64 10, Value.int .i64 0, Value.int .i64 5])[j]? = some u) => ((hZ.out (w2.drew)).at0 hu).1
      refine hK.out _ _ (HD.out _ hagb) (fun hHb => ?_)
      clear hK K
      try simp only [Act.put, List.getElem_toArray, List.getElem_cons_zero, List.getElem_cons_succ, List.setIfInBounds_toArray, List.set_cons_zero, List.set_cons_succ]
      refine wpAnyH_ready (rs := [3]) (by kernel_rfl) (by simp) ?_
      refine AllReadyH.cons rfl (fun K hK => ?_) AllReadyH.nil
      go_simp
      refine (P6.out ((m + 501)) _ (by omega) hRb).mono ?_
      rintro e wk3 ⟨k3, rfl, hk3, hRk3, hAk3⟩
      have hk3' : (k3 : Int) < 6 := by omega
      have hagk3 := hagb.trans hAk3 (fun _ _ h => h)
      replace hBt := fun (j : Nat) (u : Value) (hu : ([Value.int .i64 (-1), Value.int .i64 10, Value.int .i64 0, Value.int .i64 5])[j]? = some u) => (hAk3.cell (b := w2.heap.size) (by have := lt_of_cell (hBt 0 _ rfl); exact this) (by omega) j).trans (hBt j u hu)
      go_wp2_with fail
      refine hK.out _ _ (HD.out _ hagk3) (fun hHk3 => ?_)
      clear hK K
      try simp only [Act.put, List.getElem_toArray, List.getElem_cons_zero, List.getElem_cons_succ, List.setIfInBounds_toArray, List.set_cons_zero, List.set_cons_succ]
      refine wpAnyH_ready (rs := [6]) (by kernel_rfl) (by simp) ?_
      refine AllReadyH.cons rfl (fun K hK => ?_) AllReadyH.nil
      go_simp
      refine (P4.out ((m + 501) + 1) _ (by omega) hRk3).mono ?_
      rintro e wk4 ⟨k4, rfl, hk4, hRk4, hAk4⟩
      have hk4' : (k4 : Int) < 4 := by omega
      have hagk4 := hagk3.trans hAk4 (fun _ _ h => h)
      replace hBt := fun (j : Nat) (u : Value) (hu : ([Value.int .i64 (-1), Value.int .i64 10, Value.int .i64 0, Value.int .i64 5])[j]? = some u) => (hAk4.cell (b := w2.heap.size) (by have := lt_of_cell (hBt 0 _ rfl); exact this) (by omega) j).trans (hBt j u hu)
      go_wp2_with fail
      refine hK.out _ _ (HD.out _ hagk4) (fun hHk4 => ?_)
      clear hK K
      try simp only [Act.put, List.getElem_toArray, List.getElem_cons_zero, List.getElem_cons_succ, List.setIfInBounds_toArray, List.set_cons_zero, List.set_cons_succ]
      obtain ⟨v4, hv, hv1, hv2⟩ : ∃ v : Int, ([Value.int .i64 (-1), Value.int .i64 10, Value.int .i64 0, Value.int .i64 5])[k4]? = some (.int .i64 v) ∧ -1 ≤ v ∧ v ≤ 1000 := by
        rcases (by omega : k4 = 0 ∨ k4 = 1 ∨ k4 = 2 ∨ k4 = 3) with rfl | rfl | rfl | rfl <;> exact ⟨_, rfl, by omega, by omega⟩
      have z0 : (wk4).cell? ⟨w2.heap.size, k4, none⟩ = some (.int .i64 v4) := hBt _ _ hv
      have hve : ∀ h : k4 < ([Value.int .i64 (-1), Value.int .i64 10, Value.int .i64 0, Value.int .i64 5]).length, ([Value.int .i64 (-1), Value.int .i64 10, Value.int .i64 0, Value.int .i64 5])[k4]'h = .int .i64 v4 := fun h => (List.getElem?_eq_some_iff.1 hv).2
      refine wpAnyH_take (i := 7) (v := ?vz9) rfl (by kernel_rfl) (by kernel_rfl) (by kernel_rfl) (fun _ _ _ h => h) (Or.inl ⟨by kernel_rfl, ?yz9⟩) hHk4 ?rz9
      case yz9 => (intro w' hS; (try dsimp only at hS); obtain s0 := hS; (try go_simp); (try with_reducible rfl))
      try simp only [Act.put, List.getElem_toArray, List.getElem_cons_zero, List.getElem_cons_succ, List.setIfInBounds_toArray, List.set_cons_zero, List.set_cons_succ]
      refine wpAnyH_ready (rs := [8]) (by kernel_rfl) (by simp) ?_
      refine AllReadyH.cons rfl (fun K hK => ?_) AllReadyH.nil
      go_simp
      refine hK.out _ _ (HD.out _ hagk4) (fun hHz => ?_)
      clear hK K
      try simp only [Act.put, List.getElem_toArray, List.getElem_cons_zero, List.getElem_cons_succ, List.setIfInBounds_toArray, List.set_cons_zero, List.set_cons_succ]
      refine wpAnyH_take (i := 9) (v := ?vz10) rfl (by kernel_rfl) (by kernel_rfl) (by kernel_rfl) (fun _ _ _ h => h) (Or.inl ⟨by kernel_rfl, ?yz10⟩) hHz ?rz10
      case yz10 => (intro w' hS; (try dsimp only at hS); obtain s0 := hS; (try go_simp); (try with_reducible rfl))
      try simp only [Act.put, List.getElem_toArray, List.getElem_cons_zero, List.getElem_cons_succ, List.setIfInBounds_toArray, List.set_cons_zero, List.set_cons_succ]
      have hOe := hOd.agr hagk4 (fun b h1 h2 h3 => by omega)
      obtain ⟨q5, hq5⟩ := get_some (l := s.disk) (k := k3) (by rw [HLD.out]; exact hk3)
      obtain ⟨d0, d1⟩ := hOe.disk.int_ hq5
      have hWd := wrote_one d0 (.int .i64 v4)
      have hOg := hOe.putDisk (k := k3) (v := v4) (by rw [HLD.out]; exact hk3) hWd
      have hAg2 := (hA2d.trans hagk4 (fun _ _ h => h)).trans (S' := (· = db)) hWd.agr (fun b hb e => by have := hdb; omega)
      have hRg := (hRk4.agr hWd.agr (by omega) (fun b hb e => by have := hRk4.le; omega))
      have hsX := hagk4.size
      have hsY := hWd.size
      refine wpAnyH_ready (rs := [10]) (by kernel_rfl) (by simp) ?_
      refine AllReadyH.cons rfl (fun K hK => ?_) AllReadyH.nil
      go_simp
      refine hK.out _ _ (by first | exact (hWd.agr.cell (b := n1) (by have := hagk4.size; omega) (by omega) 1).trans (HD.out _ hagk4)) (fun hHy => ?_)
      clear hK K
      try simp only [Act.put, List.getElem_toArray, List.getElem_cons_zero, List.getElem_cons_succ, List.setIfInBounds_toArray, List.set_cons_zero, List.set_cons_succ]
      replace q0 := (hWd.agr.cell (b := w.heap.size) (by omega) (by omega) 0).trans ((hagk4.cell (b := w.heap.size) (by show _ < w2.heap.size; omega) (by omega) 0).trans q0)
      replace q1 := (hWd.agr.cell (b := w.heap.size) (by omega) (by omega) 1).trans ((hagk4.cell (b := w.heap.size) (by show _ < w2.heap.size; omega) (by omega) 1).trans q1)
      replace f0 := (hWd.agr.fz (b := w.heap.size) (by omega) (by omega) 0).trans ((hagk4.fz (b := w.heap.size) (by show _ < w2.heap.size; omega) (by omega) 0).trans f0)
      replace f1 := (hWd.agr.fz (b := w.heap.size) (by omega) (by omega) 1).trans ((hagk4.fz (b := w.heap.size) (by show _ < w2.heap.size; omega) (by omega) 1).trans f1)
      replace b0 := (hWd.agr.cell (b := n1) (by omega) (by omega) 0).trans ((hagk4.cell (b := n1) (by show _ < w2.heap.size; omega) (by omega) 0).trans b0)
      replace b1 := (hWd.agr.cell (b := n1) (by omega) (by omega) 1).trans ((hagk4.cell (b := n1) (by show _ < w2.heap.size; omega) (by omega) 1).trans b1)
      have hsm2 : stSmall ⟨s.flash, s.disk.set k3 v4⟩ := ⟨hsm.out.1, by rw [List.length_set, HLD.out]; omega⟩
      replace hsm2 := Lib.hid hsm2
      clear hWd hOe hOd z0 d0 d1 hq5 hBt hv
      refine wpAnyH_done (by kernel_rfl) ?_ _
      go_wp2
      have hL := laid_cells q0 q1 (Value.slice A 4 c) (Value.slice (some ⟨db, dO, none⟩) 6 6)
      have hsz := hL.size
      have hOf := hOg.agr hL.agr (fun b h1 h2 h3 => by omega)
      have hRf := (hRg.agr hL.agr (by omega) (fun b hb e => by have := hRg.le; omega)).mono (n := m + 1200) (by omega)
      have hAf := hAg2.trans (S' := (· = w.heap.size)) hL.agr (fun b hb e => by omega)
      have r0 := hL.new_ 0 _ rfl
      have r1 := hL.new_ 1 _ rfl
      clear hL
      go_wp2
      refine bodyPost_ret (v := .agg #[Value.slice A 4 c, Value.slice (some ⟨db, dO, none⟩) 6 6]) (by simp [results, Try.results52, go_sem, r0, r1, q0, q1]) rfl ⟨A, (some ⟨db, dO, none⟩), c, 6, ⟨s.flash, s.disk.set k3 v4⟩, ?_, hsm2.out, hOf.mono (by omega) (by omega), hRf, hAf⟩
      · rw [List.length_set, HLF.out, HLD.out]
  · have t0 : ((k : Int) == 0) = false := by rw [beq_eq_false_iff_ne]; omega
    by_cases h1 : k = 1
    · have t1 : ((k : Int) == 1) = true := by subst h1; rfl
      clear h0 h1
      obtain ⟨x0, xs', hdk⟩ : ∃ x0 xs', s.disk = x0 :: xs' := by
        have h := HLD.out
        cases hd : s.disk with
        | nil => rw [hd] at h; simp at h
        | cons a l => exact ⟨a, l, rfl⟩
      have hl5 : xs'.length = 5 := by have h := HLD.out; rw [hdk] at h; simpa using h
      have HL5 := Lib.hid hl5
      have hOt : OSt w2 lo hi A s.flash (some ⟨db, dO + 1, none⟩) xs' := by
        obtain ⟨hs, h1, h2, h3, h4⟩ := hO
        refine ⟨hs, h1, h2, ?_, fun b hb => h4 b (by rw [blk_some] at hb ⊢; exact hb)⟩
        have := h3.drop 1
        rw [hdk] at this
        exact this
      have hWb := (wrote_one b1 (.slice (some ⟨db, dO + 1, none⟩) 5 5))
      have hOg := hOt.agr hWb.agr (fun b h1 h2 h3 => by omega)
      have hAg2 := hA2.trans (S' := (· = n1)) hWb.agr (fun b hb e => by omega)
      have hRg := (hR2.agr hWb.agr (by omega) (fun b hb e => by have := hR2.le; omega))
      have hsY := hWb.size
      replace q0 := (hWb.agr.cell (b := w.heap.size) (by omega) (by omega) 0).trans q0
      replace q1 := (hWb.agr.cell (b := w.heap.size) (by omega) (by omega) 1).trans q1
      replace f0 := (hWb.agr.fz (b := w.heap.size) (by omega) (by omega) 0).trans f0
      replace f1 := (hWb.agr.fz (b := w.heap.size) (by omega) (by omega) 1).trans f1
      have c0 := (World.cell?_setCell_other w2 ⟨n1, 1, none⟩ ⟨n1, 0, none⟩ (.slice (some ⟨db, dO + 1, none⟩) 5 5) (by simp)).trans b0
      have c1 := hWb.new_ 0 _ rfl
      rw [Nat.add_zero] at c1
      have hsm2 : stSmall ⟨s.flash, xs'⟩ := ⟨hsm.out.1, by show xs'.length ≤ 6; omega⟩
      replace hsm2 := Lib.hid hsm2
      clear hWb hOt hdk hl5
      go_wp2
      have hL := laid_cells q0 q1 (Value.slice A 4 c) (Value.slice (some ⟨db, dO + 1, none⟩) 5 5)
      have hsz := hL.size
      have hOf := hOg.agr hL.agr (fun b h1 h2 h3 => by omega)
      have hRf := (hRg.agr hL.agr (by omega) (fun b hb e => by have := hRg.le; omega)).mono (n := m + 1200) (by omega)
      have hAf := hAg2.trans (S' := (· = w.heap.size)) hL.agr (fun b hb e => by omega)
      have r0 := hL.new_ 0 _ rfl
      have r1 := hL.new_ 1 _ rfl
      clear hL
      go_wp2
      refine bodyPost_ret (v := .agg #[Value.slice A 4 c, Value.slice (some ⟨db, dO + 1, none⟩) 5 5]) (by simp [results, Try.results52, go_sem, r0, r1, q0, q1]) rfl ⟨A, (some ⟨db, dO + 1, none⟩), c, 5, ⟨s.flash, xs'⟩, ?_, hsm2.out, hOf.mono (by omega) (by omega), hRf, hAf⟩
      · rw [HLF.out, HL5.out]
    · have t1 : ((k : Int) == 1) = false := by rw [beq_eq_false_iff_ne]; omega
      by_cases h2 : k = 2
      · have t2 : ((k : Int) == 2) = true := by subst h2; rfl
        clear h0 h1 h2
        go_wp2_with fail
        refine (spec_l71Flash B R (m + 501) _ (by omega) hR2).mono ?_
        rintro e w3 ⟨g, o, c3, f, rfl, hf, hO3, hR3, hA3⟩
        have HF := Lib.hid hf
        have hs3 := hA3.size
        replace q0 := (hA3.cell (b := w.heap.size) (by omega) (by omega) 0).trans q0
        replace q1 := (hA3.cell (b := w.heap.size) (by omega) (by omega) 1).trans q1
        replace f0 := (hA3.fz (b := w.heap.size) (by omega) (by omega) 0).trans f0
        replace f1 := (hA3.fz (b := w.heap.size) (by omega) (by omega) 1).trans f1
        replace b0 := (hA3.cell (b := n1) (by omega) (by omega) 0).trans b0
        replace b1 := (hA3.cell (b := n1) (by omega) (by omega) 1).trans b1
        replace g0 := (hA3.fz (b := n1) (by omega) (by omega) 0).trans g0
        have hA3' := hA2.trans hA3 (fun _ _ h => h)
        have hWb := wrote_one b0 (.slice (some ⟨g, o, none⟩) f.length c3)
        have hOg := OSt.mk' (lo := w.heap.size + 1) (hi := w3.heap.size) (hO3.agr hWb.agr (fun b h1 h2 h3 => by omega)) ((hO.agr hA3 (fun b h1 h2 h3 => by omega)).agr hWb.agr (fun b h1 h2 h3 => by omega)).disk (by omega) (Nat.le_refl _) (by omega) (by omega) (.inl (by omega))
        have hAg2 := hA3'.trans (S' := (· = n1)) hWb.agr (fun b hb e => by omega)
        have hRg := (hR3.agr hWb.agr (by omega) (fun b hb e => by have := hR3.le; omega))
        have hsY := hWb.size
        replace q0 := (hWb.agr.cell (b := w.heap.size) (by omega) (by omega) 0).trans q0
        replace q1 := (hWb.agr.cell (b := w.heap.size) (by omega) (by omega) 1).trans q1
        replace f0 := (hWb.agr.fz (b := w.heap.size) (by omega) (by omega) 0).trans f0
        replace f1 := (hWb.agr.fz (b := w.heap.size) (by omega) (by omega) 1).trans f1
        have c1 := (World.cell?_setCell_other w3 ⟨n1, 0, none⟩ ⟨n1, 1, none⟩ (.slice (some ⟨g, o, none⟩) f.length c3) (by simp)).trans b1
        have c0 := hWb.new_ 0 _ rfl
        rw [Nat.add_zero] at c0
        have hsm2 : stSmall ⟨f, s.disk⟩ := ⟨HF.out, hsm.out.2⟩
        replace hsm2 := Lib.hid hsm2
        clear hWb hO3 hO hf
        go_wp2
        have hL := laid_cells q0 q1 (Value.slice (some ⟨g, o, none⟩) f.length c3) (Value.slice (some ⟨db, dO, none⟩) 6 6)
        have hsz := hL.size
        have hOf := hOg.agr hL.agr (fun b h1 h2 h3 => by omega)
        have hRf := (hRg.agr hL.agr (by omega) (fun b hb e => by have := hRg.le; omega)).mono (n := m + 1200) (by omega)
        have hAf := hAg2.trans (S' := (· = w.heap.size)) hL.agr (fun b hb e => by omega)
        have r0 := hL.new_ 0 _ rfl
        have r1 := hL.new_ 1 _ rfl
        clear hL
        go_wp2
        refine bodyPost_ret (v := .agg #[Value.slice (some ⟨g, o, none⟩) f.length c3, Value.slice (some ⟨db, dO, none⟩) 6 6]) (by simp [results, Try.results52, go_sem, r0, r1, q0, q1]) rfl ⟨(some ⟨g, o, none⟩), (some ⟨db, dO, none⟩), c3, 6, ⟨f, s.disk⟩, ?_, hsm2.out, hOf.mono (by omega) (by omega), hRf, hAf⟩
        · rw [HLD.out]
      · have t2 : ((k : Int) == 2) = false := by rw [beq_eq_false_iff_ne]; omega
        by_cases h3 : k = 3
        · have t3 : ((k : Int) == 3) = true := by subst h3; rfl
          clear h0 h1 h2 h3
          obtain ⟨hs, hBk, hApt, hDk, hAp⟩ := hO
          obtain ⟨g, o, rfl⟩ := hBk.addr (by intro e; have := HLF.out; rw [e] at this; simp at this)
          have hgt := hApt.top g (blk_some.2 rfl)
          have hgd : ¬ db = g := fun e => (hAp db (blk_some.2 rfl)).2.2.1 (blk_some.2 e.symm)
          go_wp2
          go_loopw [5] (fun i wr => ∃ j : Nat, j ≤ 4 ∧ i = .int .i64 j ∧ Agr (· = g) w2 wr ∧ Bks wr (some ⟨g, o, none⟩) (wornTo s.flash j) hs) (fun i _ => 4 - (intOf i).toNat)
          case atStart => exact ⟨0, by omega, rfl, Agr.refl _ _, hBk⟩
          case round =>
            obtain ⟨j, hj, rfl, hAj, hBj⟩ := hrel
            have y0 := (hAj.cell (b := n1) (by omega) (by omega) 0).trans b0
            have hsj := hAj.size
            by_cases hlt : j < 4
            · obtain ⟨b, hb⟩ := get_some (l := s.flash) (k := j) (by rw [HLF.out]; exact hlt)
              have hbj : (wornTo s.flash j)[j]? = some b := by rw [wornTo_get]; exact hb
              obtain ⟨x, hx, c0, c1, z0, z1, _, _⟩ := hBj.at_ hbj
              have hWw := (wrote_one c1 (.int .i64 200)).less c0
              have hBn := hBj.setHdr (n := 200) hApt hbj hx hWw
              rw [wornTo_step hb] at hBn
              have hAn := hAj.trans hWw.agr (fun _ _ h => h)
              have hj1 : (j : Int) < 4 := by omega
              have e1 : IntKind.i64.wrap ((j : Int) + 1) = (j : Int) + 1 := IntWalk.i64_in _ (by omega)
              clear hb hbj hx hWw hBj hAj
              go_wp2
              go_roundw
              (case rel => exact ⟨j + 1, by omega, by go_num, hAn, hBn⟩)
              (case measure => simp [intOf]; omega)
            · have hj4 : (4 : Int) ≤ (j : Int) := by omega
              have hjj : j = 4 := by omega
              rw [hjj] at hBj
              clear hjj
              have hOg : OSt wr lo hi (some ⟨g, o, none⟩) (wornTo s.flash 4) (some ⟨db, dO, none⟩) s.disk := ⟨hs, hBj, hApt, hDk.agr hAj (fun b hb e => by rw [blk_some] at hb; omega), hAp⟩
              have hAg2 := hA2.trans (S' := (· = g)) hAj (fun b hb e => by omega)
              have hRg := (hR2.agr hAj (by omega) (fun b hb e => by have := hR2.le; omega))
              replace q0 := (hAj.cell (b := w.heap.size) (by omega) (by omega) 0).trans q0
              replace q1 := (hAj.cell (b := w.heap.size) (by omega) (by omega) 1).trans q1
              replace f0 := (hAj.fz (b := w.heap.size) (by omega) (by omega) 0).trans f0
              replace f1 := (hAj.fz (b := w.heap.size) (by omega) (by omega) 1).trans f1
              have y1 := (hAj.cell (b := n1) (by omega) (by omega) 1).trans b1
              have hsm2 := Lib.hid (show stSmall ⟨wornTo s.flash 4, s.disk⟩ from ⟨wornTo_small hsm.out.1 4, hsm.out.2⟩)
              have HWL := Lib.hid (wornTo_len s.flash 4)
              clear hBj hDk
              go_wp2
              have hL := laid_cells q0 q1 (Value.slice (some ⟨g, o, none⟩) 4 c) (Value.slice (some ⟨db, dO, none⟩) 6 6)
              have hsz := hL.size
              have hOf := hOg.agr hL.agr (fun b h1 h2 h3 => by omega)
              have hRf := (hRg.agr hL.agr (by omega) (fun b hb e => by have := hRg.le; omega)).mono (n := m + 1200) (by omega)
              have hAf := hAg2.trans (S' := (· = w.heap.size)) hL.agr (fun b hb e => by omega)
              have r0 := hL.new_ 0 _ rfl
              have r1 := hL.new_ 1 _ rfl
              clear hL
              go_wp2
              refine bodyPost_ret (v := .agg #[Value.slice (some ⟨g, o, none⟩) 4 c, Value.slice (some ⟨db, dO, none⟩) 6 6]) (by simp [results, Try.results52, go_sem, r0, r1, q0, q1]) rfl ⟨(some ⟨g, o, none⟩), (some ⟨db, dO, none⟩), c, 6, ⟨wornTo s.flash 4, s.disk⟩, ?_, hsm2.out, hOf.mono (by omega) (by omega), hRf, hAf⟩
              · rw [HWL.out, HLF.out, HLD.out]
        · have t3 : ((k : Int) == 3) = false := by rw [beq_eq_false_iff_ne]; omega
          clear h0 h1 h2 h3
          go_wp2
          have hL := laid_cells q0 q1 (Value.slice A 4 c) (Value.slice (some ⟨db, dO, none⟩) 6 6)
          have hsz := hL.size
          have hOf := hO.agr hL.agr (fun b h1 h2 h3 => by omega)
          have hRf := (hR2.agr hL.agr (by omega) (fun b hb e => by have := hR2.le; omega)).mono (n := m + 1200) (by omega)
          have hAf := hA2.trans (S' := (· = w.heap.size)) hL.agr (fun b hb e => by omega)
          have r0 := hL.new_ 0 _ rfl
          have r1 := hL.new_ 1 _ rfl
          clear hL
          go_wp2
          refine bodyPost_ret (v := .agg #[Value.slice A 4 c, Value.slice (some ⟨db, dO, none⟩) 6 6]) (by simp [results, Try.results52, go_sem, r0, r1, q0, q1]) rfl ⟨A, (some ⟨db, dO, none⟩), c, 6, s, ?_, hsm.out, hOf.mono (by omega) (by omega), hRf, hAf⟩
          · rw [HLF.out, HLD.out]
end Go.Proofs.Ytfkjhnfbajflaaa
